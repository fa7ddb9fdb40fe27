/- The row of SatNots, and what it rests on; no condition. -/
import Derived.Test.YtghommaokdhjmaaGreatSZD1
import Derived.ChangeSame
import Derived.ChangeArms
import Derived.Test.YtghommaokdhjmaaGreatRows
import Derived.WalkKit
import Derived.ProofKit
import Derived.OpenShut
import Derived.ShutString
import Derived.ChangeOld
import Derived.Below
import Derived.SizedLaws
set_option linter.unusedVariables false
set_option linter.unusedSimpArgs false
/- What the four laws' walks share: the contracts over rows that are read, the place, the answers. -/
namespace Go.Proofs.YtghommaokdhjmaaGreat.Sat
open Go.RowKit Go.Lib Go.Sort Go.Proofs.SymP Go.Proofs.YtghommaokdhjmaaGreatW.PrintWords P FactC IRow Frm SpecM SpecB PSat PSpec CmpF BothB SortStr Str
section
variable {W : World} {A B T D : Option Addr} {n n2 c c2 tn tc bn bc : Nat} {l m : List S62} {t : List S58} {b : List S66}
theorem cHeavyN {v : Bool} (h : NRow W A n c l) (hv : Ev (fun k => constablelaw12_Heavy.f k l) v) : Calls Tryz.prog 9 #[.slice A n c] W fun e w' => e = .returned (.bool v) ∧ Go.RowKit.Below W.heap.size W w' := by
 obtain rfl := h.len
 obtain ⟨k, hk⟩ := hv.rounds
 exact constablelaw12_Heavy.calls k A c l _ W h.C h.cap hk
theorem cLong {v : Bool} (h : TRow W T tn tc t) (hv : Ev (fun k => constablelaw25_Long.f k t) v) : Calls Tryz.prog 11 #[.slice T tn tc] W fun e w' => e = .returned (.bool v) ∧ Go.RowKit.Below W.heap.size W w' := by
 obtain rfl := h.len
 obtain ⟨k, hk⟩ := hv.rounds
 exact constablelaw25_Long.calls k T tc t _ W h.C h.cap hk
theorem cHeavyB {v : Bool} (h : BRow W B bn bc b) (hv : heavyP b = v) : Calls Tryz.prog 12 #[.slice B bn bc] W fun e w' => e = .returned (.bool v) ∧ Go.RowKit.Below W.heap.size W w' := by
 obtain rfl := h.len
 subst hv
 obtain ⟨k, hk⟩ := (ev_heavy b).rounds
 exact (constablelaw05_Heavy.calls k B bc b _ W h.C h.cap hk).mono fun e w' h => ⟨h.1, h.2.below⟩
theorem cHolds {p : Nat} {x : Bool} {e0 : Int} (hl : NRow W A n c l) (ht : TRow W T tn tc t) (hb : BRow W B bn bc b) (hf : fitNs l) (hfb : fitB b = true) (hft : ∀ y ∈ t, fitF y) (htn : tn ≤ 1000000) (hbn : bn ≤ 1000000) (hx : holdsV l t (p : Int) b = x) (he : holdsE l t (p : Int) b = e0) :
  Calls Tryz.prog 14 #[.slice A n c, .slice T tn tc, .int .i64 (p : Int), .slice B bn bc] W fun e w' => e = .returned (.tuple #[.bool x, .int .i64 e0]) ∧ Go.RowKit.Below W.heap.size W w' := by
 subst hx he
 exact Holds_calls hl ht hb hf hfb hft htn hbn
end
/-- A place behind another one: the error is the same. -/
theorem holdsE_same {l : List S62} {t : List S58} {b : List S66} {p q : Nat} (hp : p < t.length) (hq : q < t.length) : holdsE l t (p : Int) b = holdsE l t (q : Int) b := by
 unfold holdsE
 rw [if_neg (show ¬ ((p : Int) < 0 ∨ (t.length : Int) ≤ (p : Int)) by omega), if_neg (show ¬ ((q : Int) < 0 ∨ (t.length : Int) ≤ (q : Int)) by omega)]
theorem holdsV_err {l : List S62} {t : List S58} {b : List S66} {i : Int} (h : holdsE l t i b ≠ 0) : holdsV l t i b = false := by unfold holdsV; rw [if_neg h]
theorem holdsV_ok {l : List S62} {t : List S58} {b : List S66} {p : Nat} (h : holdsE l t (p : Int) b = 0) : holdsV l t (p : Int) b = semP (evP t b) l p := by unfold holdsV; rw [if_pos h]; rfl
theorem holdsE_chk {l : List S62} {t : List S58} {b : List S66} {i : Int} (h : holdsE l t i b = 0) : chkN l = 0 := by
 unfold holdsE at h
 by_cases hc : chkN l = 0
 ·exact hc
 ·rw [if_pos hc] at h; exact absurd h hc
theorem place (i : Int) (tn : Nat) (h : 0 < tn) (h2 : tn ≤ 14) : ∃ p : Nat, wrap64 ((IntKind.u64.wrap i).tmod ↑tn) = ↑p ∧ p < tn := by
 have h0 : 0 ≤ IntKind.u64.wrap i := by unfold IntKind.wrap; simp [IntKind.bits, IntKind.signed]; omega
 have h3 := Int.tmod_nonneg (tn : Int) h0
 have h4 := Int.tmod_lt_of_pos (IntKind.u64.wrap i) (show (0 : Int) < tn by omega)
 generalize (IntKind.u64.wrap i).tmod ↑tn = r at *
 clear h0
 refine ⟨r.toNat, ?_, by omega⟩
 unfold wrap64
 omega
theorem fit_join {l m : List S62} (hl : fitNs l) (hm : fitNs m) (h1 : l.length ≤ 1000) (h2 : m.length ≤ 1000) (k : Int) : fitNs (joinN l m k) := by
 unfold joinN
 refine ⟨fun x hx => ?_, by simp; omega⟩
 rcases List.mem_append.1 hx with hx | hx
 ·rcases List.mem_append.1 hx with hx | hx
  ·exact hl.1 x hx
  ·obtain ⟨y, hy, rfl⟩ := List.mem_map.1 hx
   exact hm.1 y hy
 ·obtain rfl := List.mem_singleton.1 hx
  exact ⟨⟨by show ByteArray.size ⟨#[]⟩ ≤ 1000000; decide, rfl⟩, by simp⟩
end Go.Proofs.YtghommaokdhjmaaGreat.Sat
/- SatNots, walked by hand: whatever the input, it answers true. -/
namespace Go.Proofs.YtghommaokdhjmaaGreat.Sat
open Go.RowKit Go.Lib Go.Sort Go.Proofs.SymP Go.Proofs.YtghommaokdhjmaaGreatW.PrintWords P FactC IRow Frm SpecM SpecB PSat PSpec CmpF BothB SortStr Str
structure Fm (W : World) (A : Option Addr) (n c : Nat) (f : List S62) (N : Nat) : Prop where
 row : NRow W A n c f
 fit : fitNs f
 le : n ≤ N
theorem Fm.below {W W' : World} {A : Option Addr} {n c N : Nat} {f : List S62} (h : Fm W A n c f N) (hb : Go.RowKit.Below W.heap.size W W') : Fm W' A n c f N := ⟨h.row.below hb, h.fit, h.le⟩
theorem topF {W : World} {A : Option Addr} {n c N : Nat} {f : List S62} (h : Fm W A n c f N) (hN : N ≤ 1000) (k : Int) : Calls Tryz.prog 26 #[.slice A n c, .int .i64 k] W fun e w' => ∃ A' c', e = .returned (.slice A' (n + 1) c') ∧ Fm w' A' (n + 1) c' (topN f k) (N + 1) ∧ Go.RowKit.Below W.heap.size W w' :=
 (top_calls h.row h.fit k).mono fun e w' ⟨A', c', h1, h2, h3⟩ => ⟨A', c', h1, ⟨h2, fit_top h.fit (by have := h.row.len; have := h.le; omega) k, Nat.succ_le_succ h.le⟩, h3⟩
theorem joinF {W : World} {A B : Option Addr} {n m c d N M : Nat} {f g : List S62} (h : Fm W A n c f N) (h2 : Fm W B m d g M) (hN : N ≤ 1000) (hM : M ≤ 1000) (k : Int) : Calls Tryz.prog 27 #[.slice A n c, .slice B m d, .int .i64 k] W fun e w' => ∃ A' c', e = .returned (.slice A' (n + m + 1) c') ∧ Fm w' A' (n + m + 1) c' (joinN f g k) (N + M + 1) ∧ Go.RowKit.Below W.heap.size W w' :=
 (join_calls h.row h2.row h.fit (by have := h.le; omega) (by have := h2.le; omega) k).mono fun e w' ⟨A', c', h3, h4, h5⟩ => ⟨A', c', h3, ⟨h4, fit_join h.fit h2.fit (by have := h.row.len; have := h.le; omega) (by have := h2.row.len; have := h2.le; omega) k, by have := h.le; have := h2.le; omega⟩, h5⟩
/-- What is the same of formulas: with not, once, always, and, or. -/
theorem nots_plain {l m : List S62} {t : List S58} {b : List S66} {p : Nat} (hr : ∀ x ∈ m, inI x.f2 ∧ inI x.f3) (hm : m.length ≤ 60) (a7 : holdsE (topN l 7) t (p : Int) b = 0) (a6 : holdsE (topN (topN (topN l 2) 6) 2) t (p : Int) b = 0) (a1 : holdsE l t (p : Int) b = 0) (a2 : holdsE (topN (topN l 2) 2) t (p : Int) b = 0) (a3 : holdsE (topN (joinN l m 3) 2) t (p : Int) b = 0) (a4 : holdsE (joinN (topN l 2) (topN m 2) 4) t (p : Int) b = 0) (a5 : holdsE (topN (joinN l m 4) 6) t (p : Int) b = 0) (a8 : holdsE (joinN (topN l 6) (topN m 6) 4) t (p : Int) b = 0) :
  holdsV (topN l 7) t (p : Int) b = holdsV (topN (topN (topN l 2) 6) 2) t (p : Int) b ∧ holdsV l t (p : Int) b = holdsV (topN (topN l 2) 2) t (p : Int) b ∧ holdsV (topN (joinN l m 3) 2) t (p : Int) b = holdsV (joinN (topN l 2) (topN m 2) 4) t (p : Int) b ∧ holdsV (topN (joinN l m 4) 6) t (p : Int) b = holdsV (joinN (topN l 6) (topN m 6) 4) t (p : Int) b := by
 obtain ⟨c1, c2, c3⟩ := chk_inL (holdsE_chk a1)
 have ct : ∀ (f : List S62) (k : Int), topN f k ≠ [] := fun f k => by unfold topN; simp
 have cl : ∀ (f : List S62) (k : Int), (topN f k).length = f.length + 1 := fun f k => by unfold topN; simp
 have hq := (join_right (by unfold two; omega) (ct l 2) (fun x hx => by
  unfold topN at hx
  rcases List.mem_append.1 hx with hx | hx
  ·exact hr x hx
  ·obtain rfl := List.mem_singleton.1 hx
   unfold inI
   exact ⟨by show _ ≤ (m.length : Int) - 1 ∧ (m.length : Int) - 1 < _; omega, by show _ ≤ (0 : Int) ∧ (0 : Int) < _; omega⟩) (holdsE_chk a4)).1
 have hq1 := hq
 unfold topN at hq1
 obtain ⟨d1, d2⟩ := inL_snoc hq1
 have d3 : m ≠ [] := fun e => by
  have := (d2.1 (show (2 : Int) ≠ 1 by decide)).1
  rw [e] at this
  exact absurd this (by decide)
 rw [holdsV_ok a7, holdsV_ok a6, holdsV_ok a1, holdsV_ok a2, holdsV_ok a3, holdsV_ok a4, holdsV_ok a5, holdsV_ok a8, sem_always, sem_neg, sem_once, sem_neg, sem_neg, sem_neg, sem_neg, sem_once, sem_and _ d1 c2 d3 (by omega) (by omega), sem_or _ hq (ct _ _) (ct _ _) (by rw [cl]; omega) (by rw [cl]; omega), sem_or _ d1 c2 d3 (by omega) (by omega), sem_or _ (inL_top d1 d3 6 (by decide) (by decide) (by decide)) (ct _ _) (ct _ _) (by rw [cl]; omega) (by rw [cl]; omega), sem_neg, sem_neg, sem_once, sem_once]
 refine ⟨always_not _ p, ?_, ?_, once_or _ _ p⟩
 ·simp
 ·simp [Bool.not_and]
set_option maxHeartbeats 8000000 in
set_option maxRecDepth 1000000 in
theorem nots_calls {w : World} {A D T B : Option Addr} {n n2 c c2 tn tc bn bc : Nat} {l m : List S62} {t : List S58} {b : List S66} (i : Int) (hl : NRow w A n c l) (hr0 : ∀ x ∈ l, inI x.f2 ∧ inI x.f3) (hm : NRow w D n2 c2 m) (hr : ∀ x ∈ m, inI x.f2 ∧ inI x.f3) (ht : TRow w T tn tc t) (hb : BRow w B bn bc b) :
  Calls Tryz.prog 7 #[.slice A n c, .slice D n2 c2, .slice T tn tc, .int .i64 i, .slice B bn bc] w fun e w' => e = .returned (.bool true) ∧ Go.RowKit.Below w.heap.size w w' := by
 obtain ⟨g1, e1, k1⟩ := ev_heavyN l
 obtain ⟨g0, e0, k0⟩ := ev_heavyN m
 obtain ⟨g2, e2, k2⟩ := ev_long t
 obtain ⟨g3, e3⟩ : ∃ g3, heavyP b = g3 := ⟨_, rfl⟩
 have G1 : Aside0 (∀ W, Go.RowKit.Below w.heap.size w W → Calls Tryz.prog 9 #[.slice A n c] W fun e w' => e = .returned (.bool g1) ∧ Go.RowKit.Below W.heap.size W w') := ⟨fun W hW => cHeavyN (hl.below hW) e1⟩
 have G0 : Aside0 (∀ W, Go.RowKit.Below w.heap.size w W → Calls Tryz.prog 9 #[.slice D n2 c2] W fun e w' => e = .returned (.bool g0) ∧ Go.RowKit.Below W.heap.size W w') := ⟨fun W hW => cHeavyN (hm.below hW) e0⟩
 have G2 : Aside0 (∀ W, Go.RowKit.Below w.heap.size w W → Calls Tryz.prog 11 #[.slice T tn tc] W fun e w' => e = .returned (.bool g2) ∧ Go.RowKit.Below W.heap.size W w') := ⟨fun W hW => cLong (ht.below hW) e2⟩
 have G3 : Aside0 (∀ W, Go.RowKit.Below w.heap.size w W → Calls Tryz.prog 12 #[.slice B bn bc] W fun e w' => e = .returned (.bool g3) ∧ Go.RowKit.Below W.heap.size W w') := ⟨fun W hW => cHeavyB (hb.below hW) e3⟩
 have htl := ht.len
 have hnl := hl.len
 have hml := hm.len
 have hbl := hb.len
 clear e1 e2 e0
 have HB := Aside0.mk (Go.RowKit.Below.refl w.heap.size w)
 by_cases hg : g1 = false ∧ g0 = false ∧ g2 = false ∧ g3 = false ∧ tn ≠ 0 ∧ tn ≤ 10
 ·obtain ⟨rfl, rfl, rfl, rfl, h4, h5⟩ := hg
  have HB0 := heavyB_fit e3
  have HL0 := k1 rfl
  have HM0 := k0 rfl
  have HT0 := k2 rfl (by omega)
  have d4 : ((tn : Int) == 0) = false := by simp; omega
  have d4' : (tn == 0) = false := by simp; omega
  have d5 : decide (10 < (tn : Int)) = false := decide_eq_false (by omega)
  have d5' : ¬ 10 < tn := by omega
  clear k1 k2 k0 e3
  have HL := Aside0.mk (Fm.mk hl (fit_small HL0) (show n ≤ 60 by omega))
  have HM := Aside0.mk (Fm.mk hm (fit_small HM0) (show n2 ≤ 60 by omega))
  have hft : ∀ y ∈ t, fitF y := fun y hy => fitF_small (HT0 y hy)
  have HP := fun p => @nots_plain l m t b p hr (by omega)
  clear hl hm hr hr0
  go_enter Tryz.func7, Tryz.ntmps7
  go_upto_region 4 with (first
     | (go_at_call 9; with_reducible refine (G1.out _ HB.out).mono ?_; rintro e w1 ⟨rfl, hb⟩; replace HB := Aside0.mk (HB.out.trans (hb.mono HB.out.size)); clear hb)
     | (go_at_call 9; with_reducible refine (G0.out _ HB.out).mono ?_; rintro e w1 ⟨rfl, hb⟩; replace HB := Aside0.mk (HB.out.trans (hb.mono HB.out.size)); clear hb)
     | (go_at_call 11; with_reducible refine (G2.out _ HB.out).mono ?_; rintro e w1 ⟨rfl, hb⟩; replace HB := Aside0.mk (HB.out.trans (hb.mono HB.out.size)); clear hb)
     | (go_at_call 12; with_reducible refine (G3.out _ HB.out).mono ?_; rintro e w1 ⟨rfl, hb⟩; replace HB := Aside0.mk (HB.out.trans (hb.mono HB.out.size)); clear hb)
     | fail)
  obtain ⟨p, hp, hpt⟩ := place i tn (by omega) (by omega)
  rw [hp]
  clear hp
  replace HP := HP p
  obtain ⟨V, hV⟩ : ∃ V : List S62 → Bool, ∀ f, holdsV f t (p : Int) b = V f := ⟨_, fun _ => rfl⟩
  obtain ⟨E, hE⟩ : ∃ E : List S62 → Int, ∀ f, holdsE f t (p : Int) b = E f := ⟨_, fun _ => rfl⟩
  simp only [hV, hE] at HP
  replace HP := Aside0.mk HP
  have CH : Aside0 (∀ (W : World) (A : Option Addr) (n c N : Nat) (f : List S62), Go.RowKit.Below w.heap.size w W → Fm W A n c f N → Calls Tryz.prog 14 #[.slice A n c, .slice T tn tc, .int .i64 (p : Int), .slice B bn bc] W fun e w' => e = .returned (.tuple #[.bool (V f), .int .i64 (E f)]) ∧ Go.RowKit.Below W.heap.size W w') := ⟨fun W A n c N f hW hN => cHolds hN.row (ht.below hW) (hb.below hW) hN.fit HB0.2 hft (by omega) (by omega) (hV f) (hE f)⟩
  clear hV hE
  clear ht hb hft HT0 HB0 HL0 HM0
  as_aux_lemma =>
  go_upto_region 6 with (first
     | (go_at_call 14; with_reducible refine (CH.out _ _ _ _ _ _ HB.out (HL.out.below HB.out)).mono ?_; rintro e w1 ⟨rfl, hb⟩; replace HB := Aside0.mk (HB.out.trans (hb.mono HB.out.size)); clear hb)
     | (go_at_call 14; with_reducible refine (CH.out _ _ _ _ _ _ HB.out HNR.out).mono ?_; rintro e w1 ⟨rfl, hb⟩; replace HB := Aside0.mk (HB.out.trans (hb.mono HB.out.size)); clear hb; clear HNR)
     | (go_at_call 26; with_reducible refine (topF (HL.out.below HB.out) (by decide) _).mono ?_; rintro e w1 ⟨A', c', rfl, hN, hb⟩; replace HB := Aside0.mk (HB.out.trans (hb.mono HB.out.size)); clear hb; have HNR := Aside0.mk hN; clear hN)
     | (go_at_call 26; with_reducible refine (topF (HM.out.below HB.out) (by decide) _).mono ?_; rintro e w1 ⟨A', c', rfl, hN, hb⟩; replace HB := Aside0.mk (HB.out.trans (hb.mono HB.out.size)); replace HNR := Aside0.mk (HNR.out.below hb); clear hb; have HNS := Aside0.mk hN; clear hN)
     | (go_at_call 26; with_reducible refine (topF HNR.out (by decide) _).mono ?_; rintro e w1 ⟨A', c', rfl, hN, hb⟩; replace HB := Aside0.mk (HB.out.trans (hb.mono HB.out.size)); clear hb; clear HNR; have HNR := Aside0.mk hN; clear hN)
     | (go_at_call 27; with_reducible refine (joinF (HL.out.below HB.out) (HM.out.below HB.out) (by decide) (by decide) _).mono ?_; rintro e w1 ⟨A', c', rfl, hN, hb⟩; replace HB := Aside0.mk (HB.out.trans (hb.mono HB.out.size)); clear hb; have HNR := Aside0.mk hN; clear hN)
     | (go_at_call 27; with_reducible refine (joinF HNR.out HNS.out (by decide) (by decide) _).mono ?_; rintro e w1 ⟨A', c', rfl, hN, hb⟩; replace HB := Aside0.mk (HB.out.trans (hb.mono HB.out.size)); clear hb; clear HNR; clear HNS; have HNR := Aside0.mk hN; clear hN)
     | fail)
  as_aux_lemma =>
  go_upto_region 8 with (first
     | (go_at_call 14; with_reducible refine (CH.out _ _ _ _ _ _ HB.out (HL.out.below HB.out)).mono ?_; rintro e w1 ⟨rfl, hb⟩; replace HB := Aside0.mk (HB.out.trans (hb.mono HB.out.size)); clear hb)
     | (go_at_call 14; with_reducible refine (CH.out _ _ _ _ _ _ HB.out HNR.out).mono ?_; rintro e w1 ⟨rfl, hb⟩; replace HB := Aside0.mk (HB.out.trans (hb.mono HB.out.size)); clear hb; clear HNR)
     | (go_at_call 26; with_reducible refine (topF (HL.out.below HB.out) (by decide) _).mono ?_; rintro e w1 ⟨A', c', rfl, hN, hb⟩; replace HB := Aside0.mk (HB.out.trans (hb.mono HB.out.size)); clear hb; have HNR := Aside0.mk hN; clear hN)
     | (go_at_call 26; with_reducible refine (topF (HM.out.below HB.out) (by decide) _).mono ?_; rintro e w1 ⟨A', c', rfl, hN, hb⟩; replace HB := Aside0.mk (HB.out.trans (hb.mono HB.out.size)); replace HNR := Aside0.mk (HNR.out.below hb); clear hb; have HNS := Aside0.mk hN; clear hN)
     | (go_at_call 26; with_reducible refine (topF HNR.out (by decide) _).mono ?_; rintro e w1 ⟨A', c', rfl, hN, hb⟩; replace HB := Aside0.mk (HB.out.trans (hb.mono HB.out.size)); clear hb; clear HNR; have HNR := Aside0.mk hN; clear hN)
     | (go_at_call 27; with_reducible refine (joinF (HL.out.below HB.out) (HM.out.below HB.out) (by decide) (by decide) _).mono ?_; rintro e w1 ⟨A', c', rfl, hN, hb⟩; replace HB := Aside0.mk (HB.out.trans (hb.mono HB.out.size)); clear hb; have HNR := Aside0.mk hN; clear hN)
     | (go_at_call 27; with_reducible refine (joinF HNR.out HNS.out (by decide) (by decide) _).mono ?_; rintro e w1 ⟨A', c', rfl, hN, hb⟩; replace HB := Aside0.mk (HB.out.trans (hb.mono HB.out.size)); clear hb; clear HNR; clear HNS; have HNR := Aside0.mk hN; clear hN)
     | fail)
  as_aux_lemma =>
  go_upto_region 10 with (first
     | (go_at_call 14; with_reducible refine (CH.out _ _ _ _ _ _ HB.out (HL.out.below HB.out)).mono ?_; rintro e w1 ⟨rfl, hb⟩; replace HB := Aside0.mk (HB.out.trans (hb.mono HB.out.size)); clear hb)
     | (go_at_call 14; with_reducible refine (CH.out _ _ _ _ _ _ HB.out HNR.out).mono ?_; rintro e w1 ⟨rfl, hb⟩; replace HB := Aside0.mk (HB.out.trans (hb.mono HB.out.size)); clear hb; clear HNR)
     | (go_at_call 26; with_reducible refine (topF (HL.out.below HB.out) (by decide) _).mono ?_; rintro e w1 ⟨A', c', rfl, hN, hb⟩; replace HB := Aside0.mk (HB.out.trans (hb.mono HB.out.size)); clear hb; have HNR := Aside0.mk hN; clear hN)
     | (go_at_call 26; with_reducible refine (topF (HM.out.below HB.out) (by decide) _).mono ?_; rintro e w1 ⟨A', c', rfl, hN, hb⟩; replace HB := Aside0.mk (HB.out.trans (hb.mono HB.out.size)); replace HNR := Aside0.mk (HNR.out.below hb); clear hb; have HNS := Aside0.mk hN; clear hN)
     | (go_at_call 26; with_reducible refine (topF HNR.out (by decide) _).mono ?_; rintro e w1 ⟨A', c', rfl, hN, hb⟩; replace HB := Aside0.mk (HB.out.trans (hb.mono HB.out.size)); clear hb; clear HNR; have HNR := Aside0.mk hN; clear hN)
     | (go_at_call 27; with_reducible refine (joinF (HL.out.below HB.out) (HM.out.below HB.out) (by decide) (by decide) _).mono ?_; rintro e w1 ⟨A', c', rfl, hN, hb⟩; replace HB := Aside0.mk (HB.out.trans (hb.mono HB.out.size)); clear hb; have HNR := Aside0.mk hN; clear hN)
     | (go_at_call 27; with_reducible refine (joinF HNR.out HNS.out (by decide) (by decide) _).mono ?_; rintro e w1 ⟨A', c', rfl, hN, hb⟩; replace HB := Aside0.mk (HB.out.trans (hb.mono HB.out.size)); clear hb; clear HNR; clear HNS; have HNR := Aside0.mk hN; clear hN)
     | fail)
  as_aux_lemma =>
  go_upto_region 12 with (first
     | (go_at_call 14; with_reducible refine (CH.out _ _ _ _ _ _ HB.out (HL.out.below HB.out)).mono ?_; rintro e w1 ⟨rfl, hb⟩; replace HB := Aside0.mk (HB.out.trans (hb.mono HB.out.size)); clear hb)
     | (go_at_call 14; with_reducible refine (CH.out _ _ _ _ _ _ HB.out HNR.out).mono ?_; rintro e w1 ⟨rfl, hb⟩; replace HB := Aside0.mk (HB.out.trans (hb.mono HB.out.size)); clear hb; clear HNR)
     | (go_at_call 26; with_reducible refine (topF (HL.out.below HB.out) (by decide) _).mono ?_; rintro e w1 ⟨A', c', rfl, hN, hb⟩; replace HB := Aside0.mk (HB.out.trans (hb.mono HB.out.size)); clear hb; have HNR := Aside0.mk hN; clear hN)
     | (go_at_call 26; with_reducible refine (topF (HM.out.below HB.out) (by decide) _).mono ?_; rintro e w1 ⟨A', c', rfl, hN, hb⟩; replace HB := Aside0.mk (HB.out.trans (hb.mono HB.out.size)); replace HNR := Aside0.mk (HNR.out.below hb); clear hb; have HNS := Aside0.mk hN; clear hN)
     | (go_at_call 26; with_reducible refine (topF HNR.out (by decide) _).mono ?_; rintro e w1 ⟨A', c', rfl, hN, hb⟩; replace HB := Aside0.mk (HB.out.trans (hb.mono HB.out.size)); clear hb; clear HNR; have HNR := Aside0.mk hN; clear hN)
     | (go_at_call 27; with_reducible refine (joinF (HL.out.below HB.out) (HM.out.below HB.out) (by decide) (by decide) _).mono ?_; rintro e w1 ⟨A', c', rfl, hN, hb⟩; replace HB := Aside0.mk (HB.out.trans (hb.mono HB.out.size)); clear hb; have HNR := Aside0.mk hN; clear hN)
     | (go_at_call 27; with_reducible refine (joinF HNR.out HNS.out (by decide) (by decide) _).mono ?_; rintro e w1 ⟨A', c', rfl, hN, hb⟩; replace HB := Aside0.mk (HB.out.trans (hb.mono HB.out.size)); clear hb; clear HNR; clear HNS; have HNR := Aside0.mk hN; clear hN)
     | fail)
  clear CH HL HM
  replace HP := HP.out
  generalize V (topN l 7) = V7 at HP ⊢
  generalize E (topN l 7) = E7 at HP ⊢
  generalize V (topN (topN (topN l 2) 6) 2) = V6 at HP ⊢
  generalize E (topN (topN (topN l 2) 6) 2) = E6 at HP ⊢
  generalize V l = V1 at HP ⊢
  generalize E l = E1 at HP ⊢
  generalize V (topN (topN l 2) 2) = V2 at HP ⊢
  generalize E (topN (topN l 2) 2) = E2 at HP ⊢
  generalize V (topN (joinN l m 3) 2) = V3 at HP ⊢
  generalize E (topN (joinN l m 3) 2) = E3 at HP ⊢
  generalize V (joinN (topN l 2) (topN m 2) 4) = V4 at HP ⊢
  generalize E (joinN (topN l 2) (topN m 2) 4) = E4 at HP ⊢
  generalize V (topN (joinN l m 4) 6) = V5 at HP ⊢
  generalize E (topN (joinN l m 4) 6) = E5 at HP ⊢
  generalize V (joinN (topN l 6) (topN m 6) 4) = V8 at HP ⊢
  generalize E (joinN (topN l 6) (topN m 6) 4) = E8 at HP ⊢
  as_aux_lemma =>
  by_cases hall : E7 = 0 ∧ E6 = 0 ∧ E1 = 0 ∧ E2 = 0 ∧ E3 = 0 ∧ E4 = 0 ∧ E5 = 0 ∧ E8 = 0
  ·obtain ⟨rfl, rfl, rfl, rfl, rfl, rfl, rfl, rfl⟩ := hall
   obtain ⟨y1, y2, y3, y4⟩ := HP rfl rfl rfl rfl rfl rfl rfl rfl
   clear HP
   subst y1 y2 y3 y4
   go_wp2_with (first
    | (go_at_call 24; with_reducible refine (wakes_calls _).mono ?_; rintro e w1 ⟨rfl, hb⟩; replace HB := Aside0.mk (HB.out.trans (hb.mono HB.out.size)); clear hb)
    | fail)
   go_ret
   exact ⟨rfl, HB.out⟩
  ·have hc : (E7 != 0) = true ∨ (E7 = 0 ∧ (E6 != 0) = true) ∨ (E7 = 0 ∧ E6 = 0 ∧ (E1 != 0) = true) ∨ (E7 = 0 ∧ E6 = 0 ∧ E1 = 0 ∧ (E2 != 0) = true) ∨ (E7 = 0 ∧ E6 = 0 ∧ E1 = 0 ∧ E2 = 0 ∧ (E3 != 0) = true) ∨ (E7 = 0 ∧ E6 = 0 ∧ E1 = 0 ∧ E2 = 0 ∧ E3 = 0 ∧ (E4 != 0) = true) ∨ (E7 = 0 ∧ E6 = 0 ∧ E1 = 0 ∧ E2 = 0 ∧ E3 = 0 ∧ E4 = 0 ∧ (E5 != 0) = true) ∨ (E7 = 0 ∧ E6 = 0 ∧ E1 = 0 ∧ E2 = 0 ∧ E3 = 0 ∧ E4 = 0 ∧ E5 = 0 ∧ (E8 != 0) = true) := by
    by_cases q7 : E7 = 0
    rotate_left
    ·exact (.inl (bne_iff_ne.2 q7))
    by_cases q6 : E6 = 0
    rotate_left
    ·exact (.inr (.inl ⟨q7, bne_iff_ne.2 q6⟩))
    by_cases q1 : E1 = 0
    rotate_left
    ·exact (.inr (.inr (.inl ⟨q7, q6, bne_iff_ne.2 q1⟩)))
    by_cases q2 : E2 = 0
    rotate_left
    ·exact (.inr (.inr (.inr (.inl ⟨q7, q6, q1, bne_iff_ne.2 q2⟩))))
    by_cases q3 : E3 = 0
    rotate_left
    ·exact (.inr (.inr (.inr (.inr (.inl ⟨q7, q6, q1, q2, bne_iff_ne.2 q3⟩)))))
    by_cases q4 : E4 = 0
    rotate_left
    ·exact (.inr (.inr (.inr (.inr (.inr (.inl ⟨q7, q6, q1, q2, q3, bne_iff_ne.2 q4⟩))))))
    by_cases q5 : E5 = 0
    rotate_left
    ·exact (.inr (.inr (.inr (.inr (.inr (.inr (.inl ⟨q7, q6, q1, q2, q3, q4, bne_iff_ne.2 q5⟩)))))))
    by_cases q8 : E8 = 0
    rotate_left
    ·exact (.inr (.inr (.inr (.inr (.inr (.inr (.inr ⟨q7, q6, q1, q2, q3, q4, q5, bne_iff_ne.2 q8⟩)))))))
    exact absurd ⟨q7, q6, q1, q2, q3, q4, q5, q8⟩ hall
   clear hall HP
   rcases hc with b1 | ⟨rfl, b1⟩ | ⟨rfl, rfl, b1⟩ | ⟨rfl, rfl, rfl, b1⟩ | ⟨rfl, rfl, rfl, rfl, b1⟩ | ⟨rfl, rfl, rfl, rfl, rfl, b1⟩ | ⟨rfl, rfl, rfl, rfl, rfl, rfl, b1⟩ | ⟨rfl, rfl, rfl, rfl, rfl, rfl, rfl, b1⟩
   all_goals (
    go_wp2_with (first
     | (go_at_call 24; with_reducible refine (wakes_calls _).mono ?_; rintro e w1 ⟨rfl, hb⟩; replace HB := Aside0.mk (HB.out.trans (hb.mono HB.out.size)); clear hb)
     | fail)
    go_ret
    exact ⟨rfl, HB.out⟩)
 ·have hc : g1 = true ∨ (g1 = false ∧ g0 = true) ∨ (g1 = false ∧ g0 = false ∧ g2 = true) ∨ (g1 = false ∧ g0 = false ∧ g2 = false ∧ g3 = true) ∨ (g1 = false ∧ g0 = false ∧ g2 = false ∧ g3 = false ∧ ((tn : Int) == 0) = true ∧ (tn == 0) = true) ∨ (g1 = false ∧ g0 = false ∧ g2 = false ∧ g3 = false ∧ ((tn : Int) == 0) = false ∧ (tn == 0) = false ∧ decide (10 < (tn : Int)) = true) := by
   cases g1 <;> cases g0 <;> cases g2 <;> cases g3 <;> simp at hg ⊢ <;> omega
  clear k1 k2 k0 hl hm ht hb hg hr hr0 e3
  rcases hc with rfl | ⟨rfl, rfl⟩ | ⟨rfl, rfl, rfl⟩ | ⟨rfl, rfl, rfl, rfl⟩ | ⟨rfl, rfl, rfl, rfl, d4, d4'⟩ | ⟨rfl, rfl, rfl, rfl, d4, d4', d5⟩
  all_goals (
   go_enter Tryz.func7, Tryz.ntmps7
   go_wp2_with (first
    | (go_at_call 9; with_reducible refine (G1.out _ HB.out).mono ?_; rintro e w1 ⟨rfl, hb⟩; replace HB := Aside0.mk (HB.out.trans (hb.mono HB.out.size)); clear hb)
    | (go_at_call 9; with_reducible refine (G0.out _ HB.out).mono ?_; rintro e w1 ⟨rfl, hb⟩; replace HB := Aside0.mk (HB.out.trans (hb.mono HB.out.size)); clear hb)
    | (go_at_call 11; with_reducible refine (G2.out _ HB.out).mono ?_; rintro e w1 ⟨rfl, hb⟩; replace HB := Aside0.mk (HB.out.trans (hb.mono HB.out.size)); clear hb)
    | (go_at_call 12; with_reducible refine (G3.out _ HB.out).mono ?_; rintro e w1 ⟨rfl, hb⟩; replace HB := Aside0.mk (HB.out.trans (hb.mono HB.out.size)); clear hb)
    | fail)
   go_ret
   exact ⟨rfl, HB.out⟩)
end Go.Proofs.YtghommaokdhjmaaGreat.Sat
/- What an argument's reading tells of its cells: whole numbers, texts, Values, Binds, and rows of them. -/
namespace Go.Proofs.YtghommaokdhjmaaGreat.Open
open Go.RowKit Go.Proofs.YtghommaokdhjmaaGreatW.PrintWords P
variable {H : Type} {enc : TypeId × Value → H} {P : Program} {w : World} {base : Nat} {sp : Nat → Bool} {held : Bool}
theorem trod_int {t : TypeId} {k : IntKind} (ht : P.underlying t = some (.int k)) {fuel : Nat} {cs : List Value} {x : DataW H × List MemPlace} (h : DataW.trod enc P w base sp held fuel t cs = some x) : ∃ n, cs = [.int k n] ∧ (Lit.int k n).wf = true := by
 cases fuel with
 | zero => simp [DataW.trod] at h
 | succ n =>
  unfold DataW.trod at h
  rw [ht] at h
  split at h <;> simp_all
theorem trod_string {t : TypeId} (ht : P.underlying t = some .string) {fuel : Nat} {cs : List Value} {x : DataW H × List MemPlace} (h : DataW.trod enc P w base sp held fuel t cs = some x) : ∃ s, cs = [.string s] ∧ s.size ≤ maxLen := by
 cases fuel with
 | zero => simp [DataW.trod] at h
 | succ n =>
  unfold DataW.trod at h
  rw [ht] at h
  split at h <;> simp_all

/-- Readings of an element type tell a kind. -/
def Tells (H : Type) (enc : TypeId × Value → H) (P : Program) (base : Nat) (sp : Nat → Bool) (held : Bool) {α : Type} (d : Kd α) (e : TypeId) : Prop :=
 ∀ (w : World) (fuel : Nat) (cs : List Value) (x : DataW H × List MemPlace), DataW.trod enc P w base sp held fuel e cs = some x → ∃ p, d.K w p cs
theorem list_of {α : Type} {Q : Nat → α → Prop} : ∀ (n : Nat), (∀ i, i < n → ∃ p, Q i p) → ∃ l : List α, l.length = n ∧ ∀ j p, l[j]? = some p → Q j p
 | 0, _ => ⟨[], rfl, fun j p h => by simp at h⟩
 | n + 1, h => by
  obtain ⟨l, hl, hq⟩ := list_of n (fun i hi => h i (by omega))
  obtain ⟨p, hp⟩ := h n (by omega)
  refine ⟨l ++ [p], by simp [hl], fun j q hj => ?_⟩
  rcases Nat.lt_trichotomy j n with h1 | h1 | h1
  ·rw [List.getElem?_append_left (by omega)] at hj; exact hq j q hj
  ·subst h1
   rw [List.getElem?_append_right (by omega), hl, Nat.sub_self] at hj
   obtain rfl : p = q := by simpa using hj
   exact hp
  ·rw [List.getElem?_eq_none (by simp; omega)] at hj; cases hj
theorem add_add' (a : Addr) (i j : Nat) : (a.add i).add j = a.add (i + j) := by
 unfold Addr.add
 by_cases hi : i = 0 <;> by_cases hj : j = 0 <;> simp [hi, hj, Nat.add_assoc]
theorem tells_row {α : Type} {d : Kd α} {t e : TypeId} (ht : P.underlying t = some (.slice e)) (hs : P.cellsOf e = d.sz) (hd : Tells H enc P base sp held d e) {fuel : Nat} {cs : List Value} {x : DataW H × List MemPlace}
  (h : DataW.trod enc P w base sp held fuel t cs = some x) : ∃ (A : Option Addr) (c : Nat) (l : List α), cs = [.slice A l.length c] ∧ l.length ≤ c ∧ Kd.C d w A l.length l := by
 rcases DataW.trod_slice ht h with ⟨rfl, _⟩ | ⟨a, len, cap, elems, rest, n, _, rfl, _, _, hl, hcm, hlen, hel, _⟩
 ·exact ⟨none, 0, [], rfl, Nat.le_refl _, rfl, by simp, fun h => absurd h (Nat.lt_irrefl _)⟩
 ·have hex : ∀ i, i < len → ∃ (p : α), ∃ c : List Value, c.length = d.sz ∧ d.K w p c ∧ ∀ j u, c[j]? = some u → w.cell? (a.add (i * d.sz + j)) = some u := by
   intro i hi
   have h1 := hel i hi
   rw [List.getElem?_eq_getElem (by omega), Option.bind_eq_some_iff] at h1
   obtain ⟨c, hc, htr⟩ := h1
   obtain ⟨p, hp⟩ := hd w _ _ _ htr
   obtain ⟨_, hcl, hcell⟩ := World.cells?_some hc
   refine ⟨p, c, by rw [hcl, hs], hp, fun j u hj => ?_⟩
   have hj' : j < P.cellsOf e := by rw [← hcl]; exact (List.getElem?_eq_some_iff.1 hj).1
   rw [← hs, ← add_add', hcell j hj', hj]
  obtain ⟨l, hll, hq⟩ := list_of len hex
  refine ⟨some a, cap, l, by rw [hll], by omega, rfl, by unfold maxLen at hcm; omega, fun _ => ⟨a, rfl, hq⟩⟩

set_option maxRecDepth 100000 in
theorem tells64 : Tells H enc Tryz.prog base sp held k64 64 := by
 intro w fuel cs x h
 obtain ⟨xs, n, _, rfl, hl, hlen, hf⟩ := DataW.trod_struct Tryz.underlying64 h
 have hc : Tryz.prog.cellsOf 64 = 3 := by kernel_rfl
 have h9 : Tryz.prog.cellsOf 9 = 1 := by kernel_rfl
 have h3 : Tryz.prog.cellsOf 3 = 1 := by kernel_rfl
 rw [hc] at hl
 obtain ⟨a, b, c, rfl⟩ : ∃ a b c, cs = [a, b, c] := by
  match cs, hl with
  | [a, b, c], _ => exact ⟨a, b, c, rfl⟩
 obtain ⟨y0, y1, y2, rfl⟩ : ∃ y0 y1 y2, xs = [y0, y1, y2] := by
  match xs, hlen with
  | [y0, y1, y2], _ => exact ⟨y0, y1, y2, rfl⟩
 have g0 : DataW.trod enc Tryz.prog w base sp held n 3 (List.take (Tryz.prog.cellsOf 3) (List.drop 0 [a, b, c])) = some y0 := hf 0 _ rfl
 have g1 : DataW.trod enc Tryz.prog w base sp held n 3 (List.take (Tryz.prog.cellsOf 3) (List.drop 1 [a, b, c])) = some y1 := hf 1 _ rfl
 have g2 : DataW.trod enc Tryz.prog w base sp held n 9 (List.take (Tryz.prog.cellsOf 9) (List.drop 2 [a, b, c])) = some y2 := hf 2 _ rfl
 rw [h3] at g0 g1
 rw [h9] at g2
 obtain ⟨n0, e0, _⟩ := trod_int Tryz.underlying3 g0
 obtain ⟨n1, e1, _⟩ := trod_int Tryz.underlying3 g1
 obtain ⟨s2, e2, _⟩ := trod_string Tryz.underlying9 g2
 obtain rfl : a = _ := by simpa using e0
 obtain rfl : b = _ := by simpa using e1
 obtain rfl : c = _ := by simpa using e2
 exact ⟨⟨n0, n1, s2⟩, k64_mk w _⟩
set_option maxRecDepth 100000 in
theorem tells66 : Tells H enc Tryz.prog base sp held k66 66 := by
 intro w fuel cs x h
 obtain ⟨xs, n, _, rfl, hl, hlen, hf⟩ := DataW.trod_struct Tryz.underlying66 h
 have hc : Tryz.prog.cellsOf 66 = 4 := by kernel_rfl
 have h9 : Tryz.prog.cellsOf 9 = 1 := by kernel_rfl
 have h3 : Tryz.prog.cellsOf 64 = 3 := by kernel_rfl
 rw [hc] at hl
 obtain ⟨a, b, c, e, rfl⟩ : ∃ a b c e, cs = [a, b, c, e] := by
  match cs, hl with
  | [a, b, c, e], _ => exact ⟨a, b, c, e, rfl⟩
 obtain ⟨y0, y1, rfl⟩ : ∃ y0 y1, xs = [y0, y1] := by
  match xs, hlen with
  | [y0, y1], _ => exact ⟨y0, y1, rfl⟩
 have g0 : DataW.trod enc Tryz.prog w base sp held n 9 (List.take (Tryz.prog.cellsOf 9) (List.drop 0 [a, b, c, e])) = some y0 := hf 0 _ rfl
 have g1 : DataW.trod enc Tryz.prog w base sp held n 64 (List.take (Tryz.prog.cellsOf 64) (List.drop 1 [a, b, c, e])) = some y1 := hf 1 _ rfl
 rw [h9] at g0
 rw [h3] at g1
 obtain ⟨s0, e0, _⟩ := trod_string Tryz.underlying9 g0
 obtain ⟨v, hv⟩ := tells64 w _ _ _ g1
 obtain rfl : a = _ := by simpa using e0
 have hv' := k64_open hv
 simp only [List.drop_succ_cons, List.drop_zero, List.take_succ_cons, List.take_zero, List.cons.injEq, and_true] at hv'
 obtain ⟨rfl, rfl, rfl⟩ := hv'
 exact ⟨⟨s0, v⟩, k66_mk w _⟩
end Go.Proofs.YtghommaokdhjmaaGreat.Open
/- What an argument's reading tells of its cells: Terms, Facts, Atoms; no condition. -/
namespace Go.Proofs.YtghommaokdhjmaaGreat.Open
open Go.RowKit Go.Proofs.YtghommaokdhjmaaGreatW.PrintWords P
variable {H : Type} {enc : TypeId × Value → H} {P : Program} {w : World} {base : Nat} {sp : Nat → Bool} {held : Bool}
set_option maxRecDepth 100000 in
theorem tells92 : Tells H enc Tryz.prog base sp held k92 92 := by
 intro w fuel cs x h
 obtain ⟨xs, n, _, rfl, hl, hlen, hf⟩ := DataW.trod_struct Tryz.underlying92 h
 have hc : Tryz.prog.cellsOf 92 = 4 := by kernel_rfl
 have h9 : Tryz.prog.cellsOf 9 = 1 := by kernel_rfl
 have h3 : Tryz.prog.cellsOf 64 = 3 := by kernel_rfl
 rw [hc] at hl
 obtain ⟨a, b, c, e, rfl⟩ : ∃ a b c e, cs = [a, b, c, e] := by
  match cs, hl with
  | [a, b, c, e], _ => exact ⟨a, b, c, e, rfl⟩
 obtain ⟨y0, y1, rfl⟩ : ∃ y0 y1, xs = [y0, y1] := by
  match xs, hlen with
  | [y0, y1], _ => exact ⟨y0, y1, rfl⟩
 have g0 : DataW.trod enc Tryz.prog w base sp held n 9 (List.take (Tryz.prog.cellsOf 9) (List.drop 0 [a, b, c, e])) = some y0 := hf 0 _ rfl
 have g1 : DataW.trod enc Tryz.prog w base sp held n 64 (List.take (Tryz.prog.cellsOf 64) (List.drop 1 [a, b, c, e])) = some y1 := hf 1 _ rfl
 rw [h9] at g0
 rw [h3] at g1
 obtain ⟨s0, e0, _⟩ := trod_string Tryz.underlying9 g0
 obtain ⟨v, hv⟩ := tells64 w _ _ _ g1
 obtain rfl : a = _ := by simpa using e0
 have hv' := k64_open hv
 simp only [List.drop_succ_cons, List.drop_zero, List.take_succ_cons, List.take_zero, List.cons.injEq, and_true] at hv'
 obtain ⟨rfl, rfl, rfl⟩ := hv'
 exact ⟨⟨s0, v⟩, k92_mk w _⟩
set_option maxRecDepth 100000 in
theorem tells58 : Tells H enc Tryz.prog base sp held k58 58 := by
 intro w fuel cs x h
 obtain ⟨xs, n, _, rfl, hl, hlen, hf⟩ := DataW.trod_struct Tryz.underlying58 h
 have hc : Tryz.prog.cellsOf 58 = 2 := by kernel_rfl
 have h9 : Tryz.prog.cellsOf 9 = 1 := by kernel_rfl
 have h3 : Tryz.prog.cellsOf 56 = 1 := by kernel_rfl
 rw [hc] at hl
 obtain ⟨a, b, rfl⟩ : ∃ a b, cs = [a, b] := by
  match cs, hl with
  | [a, b], _ => exact ⟨a, b, rfl⟩
 obtain ⟨y0, y1, rfl⟩ : ∃ y0 y1, xs = [y0, y1] := by
  match xs, hlen with
  | [y0, y1], _ => exact ⟨y0, y1, rfl⟩
 have g0 : DataW.trod enc Tryz.prog w base sp held n 9 (List.take (Tryz.prog.cellsOf 9) (List.drop 0 [a, b])) = some y0 := hf 0 _ rfl
 have g1 : DataW.trod enc Tryz.prog w base sp held n 56 (List.take (Tryz.prog.cellsOf 56) (List.drop 1 [a, b])) = some y1 := hf 1 _ rfl
 rw [h9] at g0
 rw [h3] at g1
 obtain ⟨s0, e0, _⟩ := trod_string Tryz.underlying9 g0
 obtain ⟨A, c, l, hcs, hlc, hC⟩ := tells_row Tryz.underlying56 (by kernel_rfl) tells64 g1
 obtain rfl : a = _ := by simpa using e0
 obtain rfl : b = _ := by simpa using hcs
 exact ⟨⟨s0, l⟩, k58_mk w ⟨s0, l⟩ hlc hC⟩
set_option maxRecDepth 100000 in
theorem tells25 : Tells H enc Tryz.prog base sp held k25 25 := by
 intro w fuel cs x h
 obtain ⟨xs, n, _, rfl, hl, hlen, hf⟩ := DataW.trod_struct Tryz.underlying25 h
 have hc : Tryz.prog.cellsOf 25 = 2 := by kernel_rfl
 have h9 : Tryz.prog.cellsOf 9 = 1 := by kernel_rfl
 have h3 : Tryz.prog.cellsOf 23 = 1 := by kernel_rfl
 rw [hc] at hl
 obtain ⟨a, b, rfl⟩ : ∃ a b, cs = [a, b] := by
  match cs, hl with
  | [a, b], _ => exact ⟨a, b, rfl⟩
 obtain ⟨y0, y1, rfl⟩ : ∃ y0 y1, xs = [y0, y1] := by
  match xs, hlen with
  | [y0, y1], _ => exact ⟨y0, y1, rfl⟩
 have g0 : DataW.trod enc Tryz.prog w base sp held n 9 (List.take (Tryz.prog.cellsOf 9) (List.drop 0 [a, b])) = some y0 := hf 0 _ rfl
 have g1 : DataW.trod enc Tryz.prog w base sp held n 23 (List.take (Tryz.prog.cellsOf 23) (List.drop 1 [a, b])) = some y1 := hf 1 _ rfl
 rw [h9] at g0
 rw [h3] at g1
 obtain ⟨s0, e0, _⟩ := trod_string Tryz.underlying9 g0
 obtain ⟨A, c, l, hcs, hlc, hC⟩ := tells_row Tryz.underlying23 (by kernel_rfl) tells92 g1
 obtain rfl : a = _ := by simpa using e0
 obtain rfl : b = _ := by simpa using hcs
 exact ⟨⟨s0, l⟩, k25_mk w ⟨s0, l⟩ hlc hC⟩
end Go.Proofs.YtghommaokdhjmaaGreat.Open
/- What an argument's reading tells of its cells: formulas' nodes; no condition. Their ranges too. -/
namespace Go.Proofs.YtghommaokdhjmaaGreat.Open
open Go.RowKit Go.Proofs.YtghommaokdhjmaaGreatW.PrintWords P
variable {H : Type} {enc : TypeId × Value → H} {P : Program} {w : World} {base : Nat} {sp : Nat → Bool} {held : Bool}
theorem lit_range {n : Int} (h : (Lit.int .i64 n).wf = true) : -9223372036854775808 ≤ n ∧ n < 9223372036854775808 := by
 simp [Lit.wf, IntKind.min, IntKind.max, IntKind.bits, IntKind.signed] at h
 omega
/-- A row whose elements bear a relation. -/
theorem rows_rel {α : Type} {R : α → List Value → Prop} {size : Nat} {t e : TypeId} (ht : P.underlying t = some (.slice e)) (hs : P.cellsOf e = size) (hd : ∀ (fuel : Nat) (cs : List Value) (x : DataW H × List MemPlace), DataW.trod enc P w base sp held fuel e cs = some x → ∃ p, R p cs) {fuel : Nat} {cs : List Value} {x : DataW H × List MemPlace}
  (h : DataW.trod enc P w base sp held fuel t cs = some x) : ∃ (A : Option Addr) (c : Nat) (l : List α), cs = [.slice A l.length c] ∧ l.length ≤ c ∧ ReadsRow R size w A l.length l := by
 rcases DataW.trod_slice ht h with ⟨rfl, _⟩ | ⟨a, len, cap, elems, rest, n, _, rfl, _, _, hl, hcm, hlen, hel, _⟩
 ·exact ⟨none, 0, [], rfl, Nat.le_refl _, rfl, by simp, fun h => absurd h (Nat.lt_irrefl _)⟩
 ·have hex : ∀ i, i < len → ∃ (p : α), ∃ c : List Value, c.length = size ∧ R p c ∧ ∀ j u, c[j]? = some u → w.cell? (a.add (i * size + j)) = some u := by
   intro i hi
   have h1 := hel i hi
   rw [List.getElem?_eq_getElem (by omega), Option.bind_eq_some_iff] at h1
   obtain ⟨c, hc, htr⟩ := h1
   obtain ⟨p, hp⟩ := hd _ _ _ htr
   obtain ⟨_, hcl, hcell⟩ := World.cells?_some hc
   refine ⟨p, c, by rw [hcl, hs], hp, fun j u hj => ?_⟩
   have hj' : j < P.cellsOf e := by rw [← hcl]; exact (List.getElem?_eq_some_iff.1 hj).1
   rw [← hs, ← add_add', hcell j hj', hj]
  obtain ⟨l, hll, hq⟩ := list_of len hex
  refine ⟨some a, cap, l, by rw [hll], by omega, rfl, by unfold maxLen at hcm; omega, fun _ => ⟨a, rfl, hq⟩⟩
set_option maxRecDepth 100000 in
theorem tells62R {fuel : Nat} {cs : List Value} {x : DataW H × List MemPlace} (h : DataW.trod enc Tryz.prog w base sp held fuel 62 cs = some x) : ∃ p, k62.K w p cs ∧ (-9223372036854775808 ≤ p.f2 ∧ p.f2 < 9223372036854775808) ∧ (-9223372036854775808 ≤ p.f3 ∧ p.f3 < 9223372036854775808) := by
 obtain ⟨xs, n, _, rfl, hl, hlen, hf⟩ := DataW.trod_struct Tryz.underlying62 h
 have hc : Tryz.prog.cellsOf 62 = 5 := by kernel_rfl
 have h9 : Tryz.prog.cellsOf 25 = 2 := by kernel_rfl
 have h3 : Tryz.prog.cellsOf 3 = 1 := by kernel_rfl
 rw [hc] at hl
 obtain ⟨a, b, c, e, f, rfl⟩ : ∃ a b c e f, cs = [a, b, c, e, f] := by
  match cs, hl with
  | [a, b, c, e, f], _ => exact ⟨a, b, c, e, f, rfl⟩
 obtain ⟨y0, y1, y2, y3, rfl⟩ : ∃ y0 y1 y2 y3, xs = [y0, y1, y2, y3] := by
  match xs, hlen with
  | [y0, y1, y2, y3], _ => exact ⟨y0, y1, y2, y3, rfl⟩
 have g0 : DataW.trod enc Tryz.prog w base sp held n 3 (List.take (Tryz.prog.cellsOf 3) (List.drop 0 [a, b, c, e, f])) = some y0 := hf 0 _ rfl
 have g1 : DataW.trod enc Tryz.prog w base sp held n 25 (List.take (Tryz.prog.cellsOf 25) (List.drop 1 [a, b, c, e, f])) = some y1 := hf 1 _ rfl
 have g2 : DataW.trod enc Tryz.prog w base sp held n 3 (List.take (Tryz.prog.cellsOf 3) (List.drop 3 [a, b, c, e, f])) = some y2 := hf 2 _ rfl
 have g3 : DataW.trod enc Tryz.prog w base sp held n 3 (List.take (Tryz.prog.cellsOf 3) (List.drop 4 [a, b, c, e, f])) = some y3 := hf 3 _ rfl
 rw [h3] at g0 g2 g3
 rw [h9] at g1
 obtain ⟨n0, e0, _⟩ := trod_int Tryz.underlying3 g0
 obtain ⟨v, hv⟩ := tells25 w _ _ _ g1
 obtain ⟨n2, e2, w2⟩ := trod_int Tryz.underlying3 g2
 obtain ⟨n3, e3, w3⟩ := trod_int Tryz.underlying3 g3
 obtain rfl : a = _ := by simpa using e0
 obtain ⟨A, q, hv', hl2, hC⟩ := k25_open hv
 simp only [List.drop_succ_cons, List.drop_zero, List.take_succ_cons, List.take_zero, List.cons.injEq, and_true] at hv'
 obtain ⟨rfl, rfl⟩ := hv'
 obtain rfl : e = _ := by simpa using e2
 obtain rfl : f = _ := by simpa using e3
 exact ⟨⟨n0, v, n2, n3⟩, k62_mk w ⟨n0, v, n2, n3⟩ hl2 hC, lit_range w2, lit_range w3⟩
/-- A formula that is an argument: read; its numbers lie in their range. -/
theorem nodes_row {fuel : Nat} {cs : List Value} {x : DataW H × List MemPlace} (h : DataW.trod enc Tryz.prog w base sp held fuel 22 cs = some x) : ∃ (A : Option Addr) (c : Nat) (l : List S62), cs = [.slice A l.length c] ∧ l.length ≤ c ∧ Kd.C k62 w A l.length l ∧ ∀ y ∈ l, (-9223372036854775808 ≤ y.f2 ∧ y.f2 < 9223372036854775808) ∧ (-9223372036854775808 ≤ y.f3 ∧ y.f3 < 9223372036854775808) := by
 obtain ⟨A, c, l, rfl, hl, hr⟩ := rows_rel (R := fun p cs => k62.K w p cs ∧ (-9223372036854775808 ≤ p.f2 ∧ p.f2 < 9223372036854775808) ∧ (-9223372036854775808 ≤ p.f3 ∧ p.f3 < 9223372036854775808)) (size := 5) Tryz.underlying22 (by kernel_rfl) (fun _ _ _ h => tells62R h) h
 refine ⟨A, c, l, rfl, hl, ⟨hr.1, hr.2.1, fun hn => ?_⟩, fun y hy => ?_⟩
 ·obtain ⟨ad, e, hc⟩ := hr.2.2 hn
  refine ⟨ad, e, fun j p hj => ?_⟩
  obtain ⟨cc, h1, h2, h3⟩ := hc j p hj
  exact ⟨cc, h1, h2.1, h3⟩
 ·obtain ⟨j, hj, rfl⟩ := List.getElem_of_mem hy
  obtain ⟨ad, e, hc⟩ := hr.2.2 (by omega)
  obtain ⟨cc, h1, h2, h3⟩ := hc j _ (List.getElem?_eq_getElem hj)
  exact h2.2
end Go.Proofs.YtghommaokdhjmaaGreat.Open
/- The row of SatNots: whatever the input, true; out of the printed walk and the plain law. -/
namespace Go.Proofs.YtghommaokdhjmaaGreat.satNots
open Go.ChangeShapes Go.WideShapes Go.ChangeAt Go.RowKit Go.Proofs.YtghommaokdhjmaaGreatW.PrintWords P Go.Proofs.YtghommaokdhjmaaGreat.Open
open Go.ChangeMaps (open_string shut_string)
theorem own : ownKnob Tryz.prog.godebug = none := by kernel_rfl
theorem laidOut : laidOutB Tryz.prog = true := by kernel_rfl
set_option maxRecDepth 100000 in
theorem lifted (os : Os) (started : os.Started) (H : Type) (enc : TypeId × Value → H) :
  ReturnsInHanded {} Tryz.checked os 7 .any (Rows.satNotsSpec.pre6 enc Tryz.prog Tryz.f7 Rows.satNotsRow.domain false) (Rows.satNotsSpec.post enc Tryz.prog Tryz.f7 false true false false) := by
 refine returnsInHanded_of_change_sized (C := Tryz.checked) own started (by kernel_rfl) Tryz.func7
  (ChangeSpec.witness6 (enc := enc) (C := Tryz.checked) false ⟨#[], #[.slice none 0 0, .slice none 0 0, .slice none 0 0, .int .i64 0, .slice none 0 0], []⟩ 8 (by kernel_rfl) (by kernel_rfl) (by kernel_rfl) (by kernel_rfl)) ?_
 intro W base args ds gs before hval0 hW hcnd hsz0 _
 have hval : ∀ (j : Nat) t v, Tryz.f7.params[j]? = some t → args[j]? = some v → Value.okWide Tryz.prog W .any base t v := hval0
 have hW' := hW
 obtain ⟨p, q, hA0, hV, rfl, hfz, hnd⟩ := hW
 have hA : DataW.TrodAll enc Tryz.prog W 0 (fun _ => true) true Tryz.f7.params.toList args.toList ds p := hA0
 rw [Tryz.params7] at hA hval
 obtain ⟨v0, vs0, d0, ds0, p0, q0, hargs, rfl, rfl, h0, r0⟩ := trodAll_cons hA
 obtain ⟨v1, vs1, d1, ds1, p1, q1, rfl, rfl, rfl, h1, r1⟩ := trodAll_cons r0
 obtain ⟨v2, vs2, d2, ds2, p2, q2, rfl, rfl, rfl, h2, r2⟩ := trodAll_cons r1
 obtain ⟨v3, vs3, d3, ds3, p3, q3, rfl, rfl, rfl, h3, r3⟩ := trodAll_cons r2
 obtain ⟨v4, vs4, d4, ds4, p4, q4, rfl, rfl, rfl, h4, r4⟩ := trodAll_cons r3
 obtain ⟨rfl, rfl, rfl⟩ := trodAll_nil r4
 obtain rfl : args = #[v0, v1, v2, v3, v4] := by cases args; simp_all
 obtain ⟨rfl, rfl⟩ := trodVars_none hV
 obtain ⟨a0, len0, cap0, rfl⟩ := okWide_slice Tryz.underlying22 (hval 0 22 v0 rfl rfl)
 have k0 := h0
 have lt0 : ∀ x ∈ p0, x.block < W.heap.size := by obtain ⟨m, hm⟩ := k0; exact DataW.trod_lt m _ _ _ hm
 obtain ⟨l0, rfl, hc0, hr0, hi0⟩ : ∃ l : List S62, len0 = l.length ∧ l.length ≤ cap0 ∧ Kd.C k62 W a0 l.length l ∧ ∀ y ∈ l, Frm.inI y.f2 ∧ Frm.inI y.f3 := by
  obtain ⟨fuel, hf⟩ := h0
  obtain ⟨A, c, l, hcs, hl, hC, hI⟩ := nodes_row hf
  simp [Value.cells] at hcs
  obtain ⟨rfl, rfl, rfl⟩ := hcs
  exact ⟨l, rfl, hl, hC, hI⟩
 obtain ⟨a1, len1, cap1, rfl⟩ := okWide_slice Tryz.underlying22 (hval 1 22 v1 rfl rfl)
 have k1 := h1
 have lt1 : ∀ x ∈ p1, x.block < W.heap.size := by obtain ⟨m, hm⟩ := k1; exact DataW.trod_lt m _ _ _ hm
 obtain ⟨l1, rfl, hc1, hr1, hi1⟩ : ∃ l : List S62, len1 = l.length ∧ l.length ≤ cap1 ∧ Kd.C k62 W a1 l.length l ∧ ∀ y ∈ l, Frm.inI y.f2 ∧ Frm.inI y.f3 := by
  obtain ⟨fuel, hf⟩ := h1
  obtain ⟨A, c, l, hcs, hl, hC, hI⟩ := nodes_row hf
  simp [Value.cells] at hcs
  obtain ⟨rfl, rfl, rfl⟩ := hcs
  exact ⟨l, rfl, hl, hC, hI⟩
 obtain ⟨a2, len2, cap2, rfl⟩ := okWide_slice Tryz.underlying28 (hval 2 28 v2 rfl rfl)
 have k2 := h2
 have lt2 : ∀ x ∈ p2, x.block < W.heap.size := by obtain ⟨m, hm⟩ := k2; exact DataW.trod_lt m _ _ _ hm
 obtain ⟨l2, rfl, hc2, hr2⟩ : ∃ l : List S58, len2 = l.length ∧ l.length ≤ cap2 ∧ Kd.C k58 W a2 l.length l := by
  obtain ⟨fuel, hf⟩ := h2
  obtain ⟨A, c, l, hcs, hl, hC⟩ := tells_row Tryz.underlying28 (by kernel_rfl) tells58 hf
  simp [Value.cells] at hcs
  obtain ⟨rfl, rfl, rfl⟩ := hcs
  exact ⟨l, rfl, hl, hC⟩
 obtain ⟨a3, rfl, rfl, rfl, w3⟩ := open_int Tryz.underlying3 (hval 3 3 v3 rfl rfl) h3
 obtain ⟨a4, len4, cap4, rfl⟩ := okWide_slice Tryz.underlying29 (hval 4 29 v4 rfl rfl)
 have k4 := h4
 have lt4 : ∀ x ∈ p4, x.block < W.heap.size := by obtain ⟨m, hm⟩ := k4; exact DataW.trod_lt m _ _ _ hm
 obtain ⟨l4, rfl, hc4, hr4⟩ : ∃ l : List S66, len4 = l.length ∧ l.length ≤ cap4 ∧ Kd.C k66 W a4 l.length l := by
  obtain ⟨fuel, hf⟩ := h4
  obtain ⟨A, c, l, hcs, hl, hC⟩ := tells_row Tryz.underlying29 (by kernel_rfl) tells66 hf
  simp [Value.cells] at hcs
  obtain ⟨rfl, rfl, rfl⟩ := hcs
  exact ⟨l, rfl, hl, hC⟩
 clear hA0 hval0 hsz0
 refine (Sat.nots_calls a3 ⟨rfl, hc0, hr0⟩ hi0 ⟨rfl, hc1, hr1⟩ hi1 ⟨rfl, hc2, hr2⟩ ⟨rfl, hc4, hr4⟩).mono fun e W' ⟨he, bel⟩ => ?_
 subst he
 exact ⟨_, rfl, _, _, _, [], _, [], hW', trodAll_mk1 (shut_bool Tryz.underlying4 _), (trodAll_cons_mk (Below.trod laidOut (by kernel_rfl) (of_decide_eq_true (by kernel_rfl)) k0 bel lt0) (trodAll_cons_mk (Below.trod laidOut (by kernel_rfl) (of_decide_eq_true (by kernel_rfl)) k1 bel lt1) (trodAll_cons_mk (Below.trod laidOut (by kernel_rfl) (of_decide_eq_true (by kernel_rfl)) k2 bel lt2) (trodAll_cons_mk (shut_int Tryz.underlying3 w3) (trodAll_cons_mk (Below.trod laidOut (by kernel_rfl) (of_decide_eq_true (by kernel_rfl)) k4 bel lt4) trodAll_mk0))))), rfl, bel.frame _, fun h => by cases h⟩
theorem over : Rows.satNotsRow.holds Tryz.pinned (OpenSpec.ofChange Rows.satNotsSpec) :=
 OpenClaim.holds_of_wide 7 Tryz.f7 rfl rfl rfl rfl rfl rfl rfl ⟨rfl, rfl, rfl, rfl, rfl⟩ rfl rfl rfl rfl rfl (by kernel_rfl) Tryz.func7 (by kernel_rfl)
  (of_decide_eq_true (by kernel_rfl)) (by unfold Func.isWrapper; first | (rw [if_pos (by decide +kernel)]; kernel_rfl) | (rw [if_neg (by decide +kernel)]; exact ⟨rfl, rfl⟩))
  (fun os started H enc _ => lifted os started H enc)
theorem proved : Rows.SatNotsSaid := over
end Go.Proofs.YtghommaokdhjmaaGreat.satNots
namespace Go.Proofs.YtghommaokdhjmaaGreat
/-- The row, under a short name, for the claim. -/
theorem satNots_holds : Rows.SatNotsSaid := satNots.proved
#print axioms satNots_holds
end Go.Proofs.YtghommaokdhjmaaGreat
