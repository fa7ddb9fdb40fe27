/- The row of SatExact, and what it rests on; no condition. -/
import Derived.Test.YtghommaokdhjmaaGreatER2
import Derived.ChangeSame
import Derived.ChangeArms
import Derived.SizedLaws
import Derived.Test.YtghommaokdhjmaaGreatRows
import Derived.WalkKit
import Derived.ProofKit
import Derived.OpenShut
import Derived.ShutString
import Derived.ChangeOld
import Derived.Below
set_option linter.unusedVariables false
set_option linter.unusedSimpArgs false
/- The reference's Pattern answers what safe.Pattern answers. -/
namespace Go.Proofs.YtghommaokdhjmaaGreat.Sat
open Go.RowKit Go.Lib Go.Sort Go.Proofs.SymP Go.Proofs.YtghommaokdhjmaaGreatW.PrintWords P FactC IRow Frm SpecM SpecB PSat PSpec CmpF BothB SortStr Str
theorem allB_sortl (xs ys : List ByteArray) : allB (sortO xs) ys = allB xs ys := by
 rw [Bool.eq_iff_iff, allB_iff, allB_iff]
 exact ⟨fun h s hs => h s (sortO_mem.2 hs), fun h s hs => h s (sortO_mem.1 hs)⟩
theorem subN_all {l : List S62} {fr : List Int} {n : Nat} (hn : l.length = n) (h1 : 1 ≤ n) (h0 : fr.getD (n - 1) 0 = 0) : subN l fr (n - 1) = varsN l := by
 unfold subN
 rw [h0, Nat.sub_add_cancel h1, List.take_of_length_le (by omega)]
 rfl
section
variable {w : World} {A L : Option Addr} {n c lc : Nat} {l : List S62} {pn an : ByteArray} {ts : List S92}
theorem rvars_all (h : NRow w L n lc l) (hf : fitNs l) (hk : chkN l = 0) : Rv w L n lc (n - 1) (sortO (varsN l)) ∧ (sortO (varsN l)).length ≤ 100000 := by
 obtain ⟨fr, dp, hfr, h0, h1, h40⟩ := chk_froms hk
 have hR := right_fr hk hfr
 rw [h.len] at h0 h1 h40
 have e := subN_all h.len h1 h0
 have := rvars_calls h hf hR (q := n - 1) (by omega)
 rw [e] at this
 refine ⟨this, ?_⟩
 have h2 := subN_len hf (by rw [h.len]; exact h40) (fr := fr) (n - 1)
 rw [e] at h2
 have := sortO_len (varsN l)
 omega
set_option maxHeartbeats 4000000 in
set_option maxRecDepth 1000000 in
theorem rightR (h : PatW w A L n c lc l pn an ts) : Calls Tryz.prog 40 #[.agg #[.string pn, .string an, .slice A ts.length c, .slice L n lc]] w fun e w' => e = .returned (.bool (rightB l pn an ts)) ∧ Go.RowKit.Below w.heap.size w w' := by
 have hu := Tryz.underlying27
 have H1 : Aside0 (∀ W, Go.RowKit.Below w.heap.size w W → Calls Tryz.prog 72 #[.string pn] W fun e w' => e = .returned (.bool (nameP pn)) ∧ Go.RowKit.Below W.heap.size W w') := ⟨fun W hW => cRName h.hpn⟩
 have H2 : Aside0 (∀ W, Go.RowKit.Below w.heap.size w W → Calls Tryz.prog 48 #[.agg #[.string an, .slice A ts.length c]] W fun e w' => e = .returned (.bool (decide (matP an ts = 0))) ∧ Go.RowKit.Below W.heap.size W w') := ⟨fun W hW => cRAtom h.hx.1 h.hx.2.1 h.hcap (Kd.C_below h.hA hW)⟩
 have H3 : Aside0 (∀ W, Go.RowKit.Below w.heap.size w W → Calls Tryz.prog 21 #[.slice L n lc] W fun e w' => e = .returned (.bool (decide (chkN l = 0))) ∧ Go.RowKit.Below W.heap.size W w') := ⟨fun W hW => form_calls (h.hl.below hW) h.hf⟩
 clear h
 have e : rightB l pn an ts = (nameP pn && (decide (matP an ts = 0) && decide (chkN l = 0))) := rfl
 rw [e]
 clear e
 generalize nameP pn = b1 at *
 generalize decide (matP an ts = 0) = b2 at *
 generalize decide (chkN l = 0) = b3 at *
 have hb0 : Go.RowKit.Below w.heap.size w (w.alloc (.cells #[.string pn, .string an, .slice A ts.length c, .slice L n lc] 27)) := (Go.RowKit.Below.refl _ w).alloc (Nat.le_refl _) _
 go_enter Tryz.func40, Tryz.ntmps40
 go_upto_region 1 with fail
 refine wp_world (fun V => V.cell? ⟨w.heap.size, 0, none⟩ = some (.string pn) ∧ V.cell? ⟨w.heap.size, 1, none⟩ = some (.string an) ∧ V.cell? ⟨w.heap.size, 2, none⟩ = some (.slice A ts.length c) ∧ V.cell? ⟨w.heap.size, 3, none⟩ = some (.slice L n lc) ∧ Go.RowKit.Below w.heap.size w V) ⟨by simp, by simp, by simp, by simp, hb0⟩ ?_
 clear hb0
 rintro w0 ⟨z0, z1, z2, z3, hb0⟩
 have HB := Aside0.mk hb0
 clear hb0
 have hc : b1 = false ∨ (b1 = true ∧ b2 = false) ∨ (b1 = true ∧ b2 = true) := by cases b1 <;> cases b2 <;> simp
 rcases hc with rfl | ⟨rfl, rfl⟩ | ⟨rfl, rfl⟩
 all_goals (
  go_wp2_with (first
   | (go_at_call 72; with_reducible refine (H1.out _ HB.out).mono ?_; rintro e w1 ⟨rfl, hb⟩; replace HB := Aside0.mk (HB.out.trans (hb.mono HB.out.size)); replace z1 := mvc hb z1; replace z2 := mvc hb z2; replace z3 := mvc hb z3; clear hb)
   | (go_at_call 48; with_reducible refine (H2.out _ HB.out).mono ?_; rintro e w1 ⟨rfl, hb⟩; replace HB := Aside0.mk (HB.out.trans (hb.mono HB.out.size)); replace z1 := mvc hb z1; replace z2 := mvc hb z2; replace z3 := mvc hb z3; clear hb)
   | (go_at_call 21; with_reducible refine (H3.out _ HB.out).mono ?_; rintro e w1 ⟨rfl, hb⟩; replace HB := Aside0.mk (HB.out.trans (hb.mono HB.out.size)); replace z1 := mvc hb z1; replace z2 := mvc hb z2; replace z3 := mvc hb z3; clear hb)
   | fail)
  go_ret
  exact ⟨rfl, HB.out⟩)
set_option maxHeartbeats 4000000 in
set_option maxRecDepth 1000000 in
theorem rpattern_no (h : PatW w A L n c lc l pn an ts) (hr : rightB l pn an ts = false) : Calls Tryz.prog 17 #[.agg #[.string pn, .string an, .slice A ts.length c, .slice L n lc]] w fun e w' => e = .returned (.int .i64 17) ∧ Go.RowKit.Below w.heap.size w w' := by
 have hu := Tryz.underlying27
 have hb0 : Go.RowKit.Below w.heap.size w (w.alloc (.cells #[.string pn, .string an, .slice A ts.length c, .slice L n lc] 27)) := (Go.RowKit.Below.refl _ w).alloc (Nat.le_refl _) _
 have H1 := Aside0.mk (rightR (h.below hb0))
 rw [hr] at H1
 have HB0 := Aside0.mk hb0
 clear h hr hb0
 go_enter Tryz.func17, Tryz.ntmps17
 go_wp2_with (first
  | (go_at_call 40; with_reducible refine H1.out.mono ?_; rintro e w1 ⟨rfl, hb⟩; have HB1 := Aside0.mk (HB0.out.trans (hb.mono HB0.out.size)); clear hb)
  | fail)
 go_ret
 exact ⟨rfl, HB1.out⟩
set_option maxHeartbeats 8000000 in
set_option maxRecDepth 1000000 in
theorem rpattern_yes (h : PatW w A L n c lc l pn an ts) (hr : rightB l pn an ts = true) (hk : chkN l = 0) {t : Bool} (HT : Lr w L n lc 41 (n - 1) t) {z : Int} (hz : (t = false ∧ z = 10) ∨ (t = true ∧ subB l ts = false ∧ z = 10) ∨ (t = true ∧ subB l ts = true ∧ z = 0)) : Calls Tryz.prog 17 #[.agg #[.string pn, .string an, .slice A ts.length c, .slice L n lc]] w fun e w' => e = .returned (.int .i64 z) ∧ Go.RowKit.Below w.heap.size w w' := by
 have hu := Tryz.underlying27
 have hn := h.hl.len
 obtain ⟨_, hne, hn40⟩ := chk_inL hk
 have hn1 : 1 ≤ n := by have := List.length_pos_iff.2 hne; omega
 have en : (n : Int) - 1 = ((n - 1 : Nat) : Int) := by omega
 have H1 : Aside0 (∀ W, Go.RowKit.Below w.heap.size w W → Calls Tryz.prog 40 #[.agg #[.string pn, .string an, .slice A ts.length c, .slice L n lc]] W fun e w' => e = .returned (.bool true) ∧ Go.RowKit.Below W.heap.size W w') := ⟨fun W hW => hr ▸ rightR (h.below hW)⟩
 obtain ⟨hV, hVl⟩ := rvars_all h.hl h.hf hk
 have H2 : Aside0 (∀ W, Go.RowKit.Below w.heap.size w W → Calls Tryz.prog 41 #[.slice L n lc, .int .i64 ((n : Int) - 1)] W fun e w' => e = .returned (.bool t) ∧ Go.RowKit.Below W.heap.size W w') := ⟨by rw [en]; exact HT⟩
 have H3 : Aside0 (∀ W, Go.RowKit.Below w.heap.size w W → Calls Tryz.prog 43 #[.slice L n lc, .int .i64 ((n : Int) - 1)] W fun e w' => ∃ V vc, e = .returned (.slice V (sortO (varsN l)).length vc) ∧ SRow w' W.heap.size (.slice V (sortO (varsN l)).length vc) (sortO (varsN l)) ∧ Go.RowKit.Below W.heap.size W w') := ⟨by rw [en]; exact hV⟩
 have hlen : (SpecM.varsL [] ts).length ≤ 1000000 := by have := varsL_len ts []; have := h.hx.2.2; simp at *; omega
 have H4 : Aside0 (∀ W, Go.RowKit.Below w.heap.size w W → Calls Tryz.prog 44 #[.agg #[.string an, .slice A ts.length c]] W fun e w' => ∃ V2 vc, e = .returned (.slice V2 (SpecM.varsL [] ts).length vc) ∧ SC w' V2 (SpecM.varsL [] ts).length vc (SpecM.varsL [] ts) ∧ Go.RowKit.Below W.heap.size W w') := ⟨fun W hW => by
  refine (cVars01 an (by have := h.hx.2.2; show ts.length ≤ _; simp at this; omega) (Kd.C_below h.hA hW) h.hcap).mono ?_
  rintro e w' ⟨v, rfl, hR, hb⟩
  obtain ⟨V2, vc, rfl⟩ := own_slice hR
  exact ⟨V2, vc, rfl, SC.of hR rfl, hb⟩⟩
 have hlc := h.hl.cap
 have HS : Aside0 ((sortO (varsN l)).length ≤ 1000000 ∧ (SpecM.varsL [] ts).length ≤ 1000000) := ⟨by omega, hlen⟩
 have HR : Aside0 (((sortO (varsN l)).all fun s => (SpecM.varsL [] ts).any fun y => decide (s = y)) = subB l ts) := ⟨allB_sortl _ _⟩
 generalize subB l ts = sb at *
 clear h HT hk hr hne hV hVl hlen
 generalize SpecM.varsL [] ts = vs at *
 generalize sortO (varsN l) = us at *
 have hb0 : Go.RowKit.Below w.heap.size w (w.alloc (.cells #[.string pn, .string an, .slice A ts.length c, .slice L n lc] 27)) := (Go.RowKit.Below.refl _ w).alloc (Nat.le_refl _) _
 have kw0 : IntKind.i64.wrap ((n : Int) - 1) = (n : Int) - 1 := kwrap (by omega) (by omega)
 clear en
 go_enter Tryz.func17, Tryz.ntmps17
 go_upto_region 1 with fail
 refine wp_world (fun V => V.cell? ⟨w.heap.size, 0, none⟩ = some (.string pn) ∧ V.cell? ⟨w.heap.size, 1, none⟩ = some (.string an) ∧ V.cell? ⟨w.heap.size, 2, none⟩ = some (.slice A ts.length c) ∧ V.cell? ⟨w.heap.size, 3, none⟩ = some (.slice L n lc) ∧ Go.RowKit.Below w.heap.size w V) ⟨by simp, by simp, by simp, by simp, hb0⟩ ?_
 clear hb0
 generalize hgk : w.heap.size = gk
 rintro w0 ⟨z0, z1, z2, z3, hb0⟩
 subst hgk
 have HB0 := Aside0.mk hb0
 clear hb0
 go_upto_region 4 with (first
  | (go_at_call 40; with_reducible refine (H1.out _ HB0.out).mono ?_; rintro e w1 ⟨rfl, hb⟩; replace HB0 := Aside0.mk (HB0.out.trans (hb.mono HB0.out.size)); replace z1 := mvc hb z1; replace z2 := mvc hb z2; replace z3 := mvc hb z3; clear hb)
  | fail)
 clear z0
 refine wp_world (fun V => V.cell? ⟨w.heap.size, 3, none⟩ = some (.slice L n lc) ∧ V.cell? ⟨w.heap.size, 1, none⟩ = some (.string an) ∧ V.cell? ⟨w.heap.size, 2, none⟩ = some (.slice A ts.length c) ∧ Go.RowKit.Below w.heap.size w V) ⟨z3, z1, z2, HB0.out⟩ ?_
 clear z1 z2 z3 HB0
 rintro w3 ⟨k0, z1, z2, hb3⟩
 have HB3 := Aside0.mk hb3
 clear hb3
 rcases hz with ⟨rfl, rfl⟩ | hz
 ·have mixed : Tryz.prog.follows .mixedOrders = true := by kernel_rfl
  have r0 := cell_regrown k0
  have c1 : ∀ d os, Calls Tryz.prog 41 #[.slice L n lc, .int .i64 ((n : Int) - 1)] (grow (redrawn w3 d) os) fun e w'' => e = .returned (.bool false) ∧ ∃ p : Regrown, w'' = grow (redrawn w3 p.d) p.os := fun d os => Calls.regrown_of (H2.out _ (HB3.out.trans ((below_regrown w3 d os).mono HB3.out.size)))
  clear H1 H2 H3 H4
  refine wp_region_quiet_below mixed (by kernel_rfl) ?_
  repeat (first | go_big_quiet_step (exact c1 _ _) | quiet_step (exact c1 _ _))
  refine wpQuiet_nil ?_
  intro _ hw'
  obtain ⟨⟨dq, osq⟩, hw''⟩ := hw'
  subst hw''
  go_wp2
  go_ret
  exact ⟨rfl, HB3.out.trans ((below_regrown w3 dq osq).mono HB3.out.size)⟩
 have hd3 : Go.RowKit.Below w3.heap.size w3 w3.drew := below_drew1 (Go.RowKit.Below.refl _ _)
 have H2' : Aside0 (Calls Tryz.prog 41 #[.slice L n lc, .int .i64 ((n : Int) - 1)] w3.drew fun e w' => e = .returned (.bool t) ∧ Go.RowKit.Below w3.heap.size w3 w') := ⟨(H2.out w3.drew (HB3.out.trans (hd3.mono HB3.out.size))).mono fun e w' hh => ⟨hh.1, hd3.trans hh.2⟩⟩
 clear hd3
 rcases hz with ⟨rfl, rfl, rfl⟩ | ⟨rfl, rfl, rfl⟩
 all_goals (
  go_region_held3 (fun w' => w'.cell? ⟨w.heap.size, 3, none⟩ = some (.slice L n lc) ∧ w'.cell? ⟨w.heap.size, 1, none⟩ = some (.string an) ∧ w'.cell? ⟨w.heap.size, 2, none⟩ = some (.slice A ts.length c))
   (first | (refine ⟨?_, ?_, ?_⟩ <;> assumption) | go_keep)
   (first
    | (go_at_call 41; (with_reducible refine H2'.out.mono ?_); rintro e w4 ⟨rfl, hb⟩; have HB4 := Aside0.mk (HB3.out.trans (hb.mono HB3.out.size)); replace k0 := mvc hb k0; replace z1 := mvc hb z1; replace z2 := mvc hb z2; clear hb)
    | (go_at_call 43; (with_reducible refine (H3.out _ HB4.out).mono ?_); rintro e w5 ⟨V1, v1c, rfl, hS, hb⟩; have HB5 := Aside0.mk (HB4.out.trans (hb.mono HB4.out.size)); have S1 := Aside0.mk (SC.of hS rfl); replace k0 := mvc hb k0; replace z1 := mvc hb z1; replace z2 := mvc hb z2; clear hb hS)
    | (go_at_call 44; (with_reducible refine (H4.out _ HB5.out).mono ?_); rintro e w6 ⟨V2, v2c, rfl, hS, hb⟩; have HB6 := Aside0.mk (HB5.out.trans (hb.mono HB5.out.size)); have S2 := Aside0.mk hS; have S1b := Aside0.mk (S1.out.below hb); replace k0 := mvc hb k0; replace z1 := mvc hb z1; replace z2 := mvc hb z2; clear hb hS)
    | (go_at_call 42; (with_reducible refine (cAll HS.out.1 HS.out.2 (S1b.out.C HS.out.1) S1b.out.cap (S2.out.C HS.out.2) S2.out.cap).mono ?_); (try rw [HR.out]); rintro e w7 ⟨rfl, hb⟩; have HB7 := Aside0.mk (HB6.out.trans (hb.mono HB6.out.size)); replace k0 := mvc hb k0; replace z1 := mvc hb z1; replace z2 := mvc hb z2; clear hb)
    | fail)
  all_goals go_wp2
  all_goals go_ret
  all_goals exact ⟨rfl, HB7.out⟩)
theorem patternX (h : PatW w A L n c lc l pn an ts) : ∃ z : Int, (z = 0 → rightB l pn an ts = true ∧ subB l ts = true) ∧ (∀ W, Go.RowKit.Below w.heap.size w W → Calls Tryz.prog 38 #[.agg #[.string pn, .string an, .slice A ts.length c, .slice L n lc]] W fun e w' => e = .returned (.int .i64 z) ∧ Go.RowKit.Below W.heap.size W w') ∧ (∀ W, Go.RowKit.Below w.heap.size w W → Calls Tryz.prog 17 #[.agg #[.string pn, .string an, .slice A ts.length c, .slice L n lc]] W fun e w' => e = .returned (.int .i64 z) ∧ Go.RowKit.Below W.heap.size W w') := by
 by_cases hr : rightB l pn an ts = true
 ·have hk : chkN l = 0 := by
   unfold rightB at hr
   simp at hr
   exact hr.2.2
  obtain ⟨_, hne, _⟩ := chk_inL hk
  have hn1 : n - 1 < n := by have := List.length_pos_iff.2 hne; have := h.hl.len; omega
  obtain ⟨f, t, a, ⟨_, ht, _⟩, _, hq, _⟩ := looks2 h.hl h.hf hk (n - 1) hn1
  have go := fun z hz W hW => @pattern_yes W A L n c lc l pn an ts (h.below hW) hr hk t (ht.up hW) z hz
  have go2 := fun z hz W hW => @rpattern_yes W A L n c lc l pn an ts (h.below hW) hr hk t (hq.up hW) z hz
  cases t with
  | false => exact ⟨10, fun e => absurd e (by decide), go 10 (.inl ⟨rfl, rfl⟩), go2 10 (.inl ⟨rfl, rfl⟩)⟩
  | true =>
   cases hs : subB l ts with
   | false => exact ⟨10, fun e => absurd e (by decide), go 10 (.inr (.inl ⟨rfl, hs, rfl⟩)), go2 10 (.inr (.inl ⟨rfl, hs, rfl⟩))⟩
   | true => exact ⟨0, fun _ => ⟨hr, rfl⟩, go 0 (.inr (.inr ⟨rfl, hs, rfl⟩)), go2 0 (.inr (.inr ⟨rfl, hs, rfl⟩))⟩
 ·have hr' : rightB l pn an ts = false := by simpa using hr
  exact ⟨17, fun e => absurd e (by decide), fun W hW => pattern_no (h.below hW) hr', fun W hW => rpattern_no (h.below hW) hr'⟩
end
end Go.Proofs.YtghommaokdhjmaaGreat.Sat
namespace Go.Proofs.YtghommaokdhjmaaGreat.P
open Go.RowKit Go.Proofs.YtghommaokdhjmaaGreatW.PrintWords Go.Proofs.YtghommaokdhjmaaGreatW.PrintLast Gate
def qf31.f (a0_0 : ByteArray) (l0_1 : List (S64)) : Option (ByteArray × (List (S64))) := if ([] : List (S64)).length + l0_1.length < 4398046511104 then (some (a0_0, (([] : List (S64)) ++ l0_1))) else (none)
set_option maxHeartbeats 8000000 in
set_option maxRecDepth 100000 in
theorem qf31.calls (a0_0 : ByteArray) (A0_1 : Option Addr) (c0_1 : Nat) (l0_1 : List (S64)) (r1 : ByteArray) (r2 : List (S64)) (w : World) (hr0_1 : Kd.C k64 w A0_1 l0_1.length l0_1) (hc0_1 : l0_1.length ≤ c0_1) (h : qf31.f a0_0 l0_1 = some (r1, r2)) :
  Calls Tryz.prog 31 #[.agg #[.string a0_0, .slice A0_1 l0_1.length c0_1]] w fun e w' => ∃ v1_ : Value, e = .returned (.agg #[.string r1, v1_]) ∧ Kd.R k64 64 w' w.heap.size (fun _ => True) v1_ r2 ∧ Below w.heap.size w w' := by
 have hu58 := Tryz.underlying58
 have HR0_1 := Aside0.mk hr0_1
 have HC0_1 := Aside0.mk hc0_1
 clear hr0_1 hc0_1
 have HB := Aside0.mk (Below.refl w.heap.size w)
 have H : (if ([] : List (S64)).length + l0_1.length < 4398046511104 then (some (a0_0, (([] : List (S64)) ++ l0_1))) else (none)) = some (r1, r2) := h
 clear h
 by_cases c2 : ([] : List (S64)).length + l0_1.length < 4398046511104
 ·rw [if_pos c2] at H
  have LMc2 := Aside0.mk c2
  clear c2
  obtain ⟨y701, hy701⟩ : ∃ y_ : List (S64), y_ = (([] : List (S64)) ++ l0_1) := ⟨_, rfl⟩
  replace H : (some (a0_0, y701)) = some (r1, r2) := by first | (rw [hy701]; with_reducible exact H) | (have H2_ := (Option.bind_some _ _).symm.trans H; rw [hy701]; with_reducible exact H2_) | (have H2_ := (Option.bind_some _ _).symm.trans H; with_reducible exact H2_) | with_reducible exact H | (rw [hy701]; exact H) | exact H
  have Ny701 := Aside0.mk hy701
  clear hy701
  simp only [Option.some.injEq, Prod.mk.injEq] at H
  obtain ⟨rfl, rfl⟩ := H
  go_enter Tryz.func31, Tryz.ntmps31
  go_wp2_with (first | ((with_reducible refine gate_dst (N := 1) rfl ?_); refine bE (N := 1) (cs := #[.string a0_0, .slice A0_1 l0_1.length c0_1]) (t := 58) ?_; intro gb698 hg w3 hbox hb; have n0_ := Aside0.mk (below_step bB0 hb); have n1_ := Aside0.mk (hbox); have n2_ := Aside0.mk ((by rw [hg]; exact (below_size bB0) : w.heap.size ≤ gb698)); have n3_ := Aside0.mk ((by rw [hg]; exact (below_size bB0) : w.heap.size ≤ gb698)); clear HB; have HB := n0_; have BK698 := n1_; have GW698 := n2_; have GE698 := n3_; clear n0_ n1_ n2_ n3_; clear hb hbox hg) | ((with_reducible refine gate_dst (N := 2) rfl ?_); refine bE (N := 2) (cs := #[.string (⟨#[]⟩ : ByteArray), .slice none 0 0]) (t := 58) ?_; intro gb699 hg w4 hbox hb; have n0_ := Aside0.mk (blk_below (g := gb698) (o := .cells #[.string a0_0, .slice A0_1 l0_1.length c0_1] 58 (0, 0)) (by refine bk ?_; exact BK698.out) hb); have n1_ := Aside0.mk (below_step (bB1 GE698.out) hb); have n2_ := Aside0.mk (hbox); have n3_ := Aside0.mk ((by rw [hg]; exact (below_size (bB1 GE698.out)) : w.heap.size ≤ gb699)); have n4_ := Aside0.mk ((by rw [hg]; exact (below_size (bB1 GE698.out)) : w.heap.size ≤ gb699)); have n5_ := Aside0.mk ((by rw [hg]; exact Nat.ne_of_lt (blk_lt (g := gb698) (o := .cells #[.string a0_0, .slice A0_1 l0_1.length c0_1] 58 (0, 0)) (by refine bk ?_; exact BK698.out)) : gb698 ≠ gb699)); have n6_ := Aside0.mk ((by rw [hg]; exact Nat.ne_of_gt (blk_lt (g := gb698) (o := .cells #[.string a0_0, .slice A0_1 l0_1.length c0_1] 58 (0, 0)) (by refine bk ?_; exact BK698.out)) : gb699 ≠ gb698)); clear BK698; clear HB; have BK698 := n0_; have HB := n1_; have BK699 := n2_; have GW699 := n3_; have GE699 := n4_; have NB698_699 := n5_; have NB699_698 := n6_; clear n0_ n1_ n2_ n3_ n4_ n5_ n6_; clear hb hbox hg; have hnb5 := NB698_699.out; have hnc5 := NB699_698.out; have hcz6_0 : w4.cell? ⟨gb698, 0, none⟩ = some (.string a0_0) := (blk_cell BK698.out 0).trans rfl; have hcz6_1 : w4.cell? ⟨gb698, 1, none⟩ = some (.slice A0_1 l0_1.length c0_1) := (blk_cell BK698.out 1).trans rfl; have hfz6_0 := blk_frozen BK698.out 0; have hfz6_1 := blk_frozen BK698.out 1) | ((with_reducible refine gate_dst (N := 3) rfl ?_); refine bE (N := 3) (cs := #[.string (⟨#[]⟩ : ByteArray), .slice none 0 0]) (t := 58) ?_; intro gb700 hg w7 hbox hb; have n0_ := Aside0.mk (blk_below (g := gb698) (o := .cells #[.string a0_0, .slice A0_1 l0_1.length c0_1] 58 (0, 0)) (by refine bk ?_; exact BK698.out) hb); have n1_ := Aside0.mk (blk_below (g := gb699) (o := .cells #[.string (⟨#[]⟩ : ByteArray), .slice none 0 0] 58 (0, 0)) (by refine bk ?_; exact BK699.out) hb); have n2_ := Aside0.mk (below_step (bB2 GE698.out GE699.out) hb); have n3_ := Aside0.mk (hbox); have n4_ := Aside0.mk ((by rw [hg]; exact (below_size (bB2 GE698.out GE699.out)) : w.heap.size ≤ gb700)); have n5_ := Aside0.mk ((by rw [hg]; exact (below_size (bB2 GE698.out GE699.out)) : w.heap.size ≤ gb700)); have n6_ := Aside0.mk ((by rw [hg]; exact Nat.ne_of_lt (blk_lt (g := gb698) (o := .cells #[.string a0_0, .slice A0_1 l0_1.length c0_1] 58 (0, 0)) (by refine bk ?_; exact BK698.out)) : gb698 ≠ gb700)); have n7_ := Aside0.mk ((by rw [hg]; exact Nat.ne_of_gt (blk_lt (g := gb698) (o := .cells #[.string a0_0, .slice A0_1 l0_1.length c0_1] 58 (0, 0)) (by refine bk ?_; exact BK698.out)) : gb700 ≠ gb698)); have n8_ := Aside0.mk ((by rw [hg]; exact Nat.ne_of_lt (blk_lt (g := gb699) (o := .cells #[.string (⟨#[]⟩ : ByteArray), .slice none 0 0] 58 (0, 0)) (by refine bk ?_; exact BK699.out)) : gb699 ≠ gb700)); have n9_ := Aside0.mk ((by rw [hg]; exact Nat.ne_of_gt (blk_lt (g := gb699) (o := .cells #[.string (⟨#[]⟩ : ByteArray), .slice none 0 0] 58 (0, 0)) (by refine bk ?_; exact BK699.out)) : gb700 ≠ gb699)); clear BK698; clear BK699; clear HB; have BK698 := n0_; have BK699 := n1_; have HB := n2_; have BK700 := n3_; have GW700 := n4_; have GE700 := n5_; have NB698_700 := n6_; have NB700_698 := n7_; have NB699_700 := n8_; have NB700_699 := n9_; clear n0_ n1_ n2_ n3_ n4_ n5_ n6_ n7_ n8_ n9_; clear hb hbox hg; have hnb8 := NB700_698.out; have hnc8 := NB698_700.out; have hnb9 := NB700_699.out; have hnc9 := NB699_700.out; have hcz10_0 : w7.cell? ⟨gb700, 0, none⟩ = some (.string (⟨#[]⟩ : ByteArray)) := (blk_cell BK700.out 0).trans rfl; have hcz10_1 : w7.cell? ⟨gb700, 1, none⟩ = some (.slice none 0 0) := (blk_cell BK700.out 1).trans rfl; have hfz10_0 := blk_frozen BK700.out 0; have hfz10_1 := blk_frozen BK700.out 1; have hcz11_0 : w7.cell? ⟨gb698, 0, none⟩ = some (.string a0_0) := (blk_cell BK698.out 0).trans rfl; have hcz11_1 : w7.cell? ⟨gb698, 1, none⟩ = some (.slice A0_1 l0_1.length c0_1) := (blk_cell BK698.out 1).trans rfl; have hfz11_0 := blk_frozen BK698.out 0; have hfz11_1 := blk_frozen BK698.out 1) | ((with_reducible refine gate_builtin (b := .append) (xs := #[.tmp 8, .tmp 10]) rfl ?_); at_builtin; refine Kd.R_append_rows k64 (w0 := w) w.heap.size rfl (.tmp 8) (.tmp 10) 56 64 (.agg #[(.int .i64 0), (.int .i64 0), (.string ⟨#[]⟩)]) 32 rfl Tryz.underlying56 info64 rfl (by decide) (by omega) (.slice none 0 0) ([] : List (S64)) l0_1 _ _ _ (fun _ => True) (fun _ => False) rfl rfl ?aO ?aR (fun _ _ h => h) (fun _ h => h.elim) ?aF ?aB ?aS ?aL ?_; (case aR => exact Kd.C_below HR0_1.out (bB3 GE698.out GE699.out GE700.out)); (case aB => exact (bB3 GE698.out GE699.out GE700.out)); (case aF => exact (fun _ _ => trivial)); (case aO => exact ((Kd.R_nil _ _ _ _ (fun _ => True)))); (case aS => exact (below_size (bB3 GE698.out GE699.out GE700.out))); (case aL => have := LMc2.out; omega); intro v702 w12 ho hb hg hat; rw [← Ny701.out] at ho; have n0_ := Aside0.mk (blk_grown (g := gb698) (o := .cells #[.string a0_0, .slice A0_1 l0_1.length c0_1] 58 (0, 0)) (by refine bk ?_; refine blk_far ?_ NB698_700.out _; refine bk ?_; refine blk_far ?_ NB698_700.out _; refine bk ?_; exact BK698.out) hg (by simp [Value.ownBlock])); have n1_ := Aside0.mk (blk_grown (g := gb699) (o := .cells #[.string (⟨#[]⟩ : ByteArray), .slice none 0 0] 58 (0, 0)) (by refine bk ?_; refine blk_far ?_ NB699_700.out _; refine bk ?_; refine blk_far ?_ NB699_700.out _; refine bk ?_; exact BK699.out) hg (by simp [Value.ownBlock])); have n2_ := Aside0.mk (blk_grown (g := gb700) (o := .cells #[.string a0_0, .slice none 0 0] 58 (0, 0)) (by refine bk ?_; refine blk_put (cs := #[.string a0_0, .slice none 0 0]) ?_ 1 _ rfl; refine bk ?_; refine blk_put (cs := #[.string (⟨#[]⟩ : ByteArray), .slice none 0 0]) ?_ 0 _ rfl; refine bk ?_; exact BK700.out) hg (by simp [Value.ownBlock])); have n3_ := Aside0.mk (hb); have n4_ := Aside0.mk (ho); clear BK698; clear BK699; clear BK700; clear HB; have BK698 := n0_; have BK699 := n1_; have BK700 := n2_; have HB := n3_; have HO703 := n4_; clear n0_ n1_ n2_ n3_ n4_; clear ho hb hg hat; obtain ⟨Ao13, co13, eo13⟩ := Kd.R_slice HO703.out; subst eo13; have hcz14_0 : w12.cell? ⟨gb700, 0, none⟩ = some (.string a0_0) := (blk_cell BK700.out 0).trans rfl; have hcz14_1 : w12.cell? ⟨gb700, 1, none⟩ = some (.slice none 0 0) := (blk_cell BK700.out 1).trans rfl; have hfz14_0 := blk_frozen BK700.out 0; have hfz14_1 := blk_frozen BK700.out 1; have hcz15_0 : w12.cell? ⟨gb699, 0, none⟩ = some (.string (⟨#[]⟩ : ByteArray)) := (blk_cell BK699.out 0).trans rfl; have hcz15_1 : w12.cell? ⟨gb699, 1, none⟩ = some (.slice none 0 0) := (blk_cell BK699.out 1).trans rfl; have hfz15_0 := blk_frozen BK699.out 0; have hfz15_1 := blk_frozen BK699.out 1))
  refine bodyPost_ret (results_cell_row rfl _ _ gb699 58 #[.string a0_0, .slice Ao13 y701.length co13] (0, 0) _ rfl (by refine bk ?_; refine blk_put (cs := #[.string a0_0, .slice none 0 0]) ?_ 1 _ rfl; refine bk ?_; refine blk_put (cs := #[.string (⟨#[]⟩ : ByteArray), .slice none 0 0]) ?_ 0 _ rfl; refine bk ?_; refine blk_far ?_ NB699_700.out _; refine bk ?_; exact BK699.out) Tryz.underlying58 rfl (by kernel_rfl)) rfl ?_
  exact ⟨_, eW, by (with_reducible repeat (first | apply Kd.R_alloc | apply Kd.R_drewN | apply Kd.R_drew)); exact Kd.R_mono (Kd.R_far (p := ⟨gb699, 1, none⟩) (Kd.R_far (p := ⟨gb699, 0, none⟩) (Kd.R_far (p := ⟨gb700, 1, none⟩) (Kd.R_types (Kd.R_types HO703.out BK700.out (by decide)) BK699.out (by decide)) (fun _ hk => hk.1.2) (.slice Ao13 y701.length co13)) (fun _ hk => hk.2) (.string a0_0)) (fun _ hk => hk.2) (.slice Ao13 y701.length co13)) (fun _ hk => trivial), (bB3 GE698.out GE699.out GE700.out)⟩
 ·rw [if_neg c2] at H
  exact absurd H (by simp)
def qf13.l0 : Nat → List (S58) → List (S58) → Int → Option ((List (S58)))
 | 0, _, _, _ => none
 | k + 1, x0, x3, x4 => if x4 < (x0.length : Int) then (if 0 ≤ x4 then ((qf31.f ((rd_T58 x0 x4).f0) ((rd_T58 x0 x4).f1)).bind fun bt705 => (if x3.length < 3518437208883 then (qf13.l0 k x0 (x3 ++ [(⟨bt705.1, bt705.2⟩ : S58)]) (wrap64 (x4 + 1))) else (none))) else (none)) else (some x3)
def qf13.f (k : Nat) (l0 : List (S58)) : Option ((List (S58))) := qf13.l0 k l0 ([] : List (S58)) 0
set_option maxHeartbeats 8000000 in
set_option maxRecDepth 100000 in
theorem qf13.calls (k : Nat) (A0 : Option Addr) (c0 : Nat) (l0 : List (S58)) (r : List (S58)) (w : World) (hr0 : Kd.C k58 w A0 l0.length l0) (hc0 : l0.length ≤ c0) (h : qf13.f k l0 = some r) :
  Calls Tryz.prog 13 #[.slice A0 l0.length c0] w fun e w' => ∃ v0_ : Value, e = .returned (v0_) ∧ Kd.S k58 58 w' w.heap.size (fun _ => True) v0_ r ∧ Below w.heap.size w w' := by
 have hu58 := Tryz.underlying58
 have HR0 := Aside0.mk hr0
 have HC0 := Aside0.mk hc0
 clear hr0 hc0
 have HB := Aside0.mk (Below.refl w.heap.size w)
 have H : (qf13.l0 k l0 ([] : List (S58)) 0) = some r := h
 clear h
 have H' := Aside0.mk H
 clear H
 go_enter Tryz.func13, Tryz.ntmps13
 go_wp2
 go_loopg [3, 4] k (fun kq v3 v4 w' => ∃ (x3_1 : List (S58)) (x4_1 : Int), v4 = .int .i64 x4_1 ∧ Aside0 (qf13.l0 kq l0 x3_1 x4_1 = some r) ∧ Aside0 (kq ≤ k) ∧ Aside0 (Kd.S k58 58 w' w.heap.size (fun _ => True) v3 x3_1) ∧ Aside0 (Below w.heap.size w w'))
 case atStart => exact ⟨(([] : List (S58))), (0), (by first | rfl | (simp; done) | (simp [*]; done)), H', ⟨Nat.le_refl _⟩, ⟨by first | exact Kd.S_nil _ _ _ _ _ | exact Kd.N_nil _ _ _ _ _ | exact Kd.V_nil _ _ _ _ _ | exact Kd.Q_nil _ _ _ _ _ | exact Kd.R_nil _ _ _ _ _⟩, ⟨bB0⟩⟩
 case round =>
  clear H'
  (try clear c1)
  obtain ⟨x3_1, x4_1, rfl, HA, HK1, HO_3, HB⟩ := hrel
  cases gk with
  | zero => exact absurd HA.out (by simp [qf13.l0])
  | succ k1 =>
   have H := HA.out
   clear HA
   simp only [qf13.l0] at H
   by_cases c2 : x4_1 < (l0.length : Int)
   ·rw [if_pos c2] at H
    have c2b0 : decide (x4_1 < (l0.length : Int)) = true := decide_eq_true c2
    clear c2
    by_cases c3 : 0 ≤ x4_1
    ·rw [if_pos c3] at H
     have c3b0 : decide (0 ≤ x4_1) = true := decide_eq_true c3
     clear c3
     replace H := Option.bind_eq_some_iff.mp H
     obtain ⟨⟨t705, t706⟩, A40, H⟩ := H
     replace H : (if x3_1.length < 3518437208883 then (qf13.l0 k1 l0 (x3_1 ++ [(⟨t705, t706⟩ : S58)]) (wrap64 (x4_1 + 1))) else (none)) = some r := H
     have A4 := Aside0.mk A40
     clear A40
     by_cases c5 : x3_1.length < 3518437208883
     ·rw [if_pos c5] at H
      have LMc5 := Aside0.mk c5
      clear c5
      obtain ⟨y709, hy709⟩ : ∃ y_ : List (S58), y_ = (x3_1 ++ [(⟨t705, t706⟩ : S58)]) := ⟨_, rfl⟩
      replace H : (qf13.l0 k1 l0 y709 (wrap64 (x4_1 + 1))) = some r := by first | (rw [hy709]; with_reducible exact H) | (have H2_ := (Option.bind_some _ _).symm.trans H; rw [hy709]; with_reducible exact H2_) | (have H2_ := (Option.bind_some _ _).symm.trans H; with_reducible exact H2_) | with_reducible exact H | (rw [hy709]; exact H) | exact H
      have Ny709 := Aside0.mk hy709
      clear hy709
      have H' := Aside0.mk H
      clear H
      have p704 : 0 ≤ (x4_1 : Int) := of_decide_eq_true (by first | (with_reducible assumption) | assumption)
      have q704 : x4_1 < (l0.length : Int) := of_decide_eq_true (by first | (with_reducible assumption) | assumption)
      obtain ⟨ad704, A704_1, c704_1, e704, hx704_0, hx704_1, hl704_1, hi704_1⟩ := at_T58 HR0.out x4_1 p704 q704
      cases e704
      have HZ704_1 := Aside0.mk hx704_1
      replace hx704_0 := mvc HB.out hx704_0
      replace hx704_1 := mvc HB.out hx704_1
      have HR704_1 := Aside0.mk hi704_1
      have HC704_1 := Aside0.mk hl704_1
      clear hi704_1 hl704_1
      replace p704 := eq_true p704
      replace q704 := eq_true q704
      go_wp2_with (first | ((with_reducible refine gate_callee (f := 31) rfl ?_); refine goesL_ (some 16) rfl rfl Tryz.func31 (by kernel_rfl) rfl #[.agg #[.string ((rd_T58 l0 x4_1).f0), .slice A704_1 ((rd_T58 l0 x4_1).f1).length c704_1]] rfl aG ?_; (with_reducible refine (qf31.calls ((rd_T58 l0 x4_1).f0) _ _ ((rd_T58 l0 x4_1).f1) t705 t706 _ ?side1 ?side2 A4.out).mono ?_); (case side1 => exact sC (Kd.C_below HR704_1.out HB.out)); (case side2 => exact HC704_1.out); rintro e w6 ⟨v707, rfl, ho0, hb⟩; refine ⟨_, rfl, ?_⟩; have n0_ := Aside0.mk (Kd.S_elder' (by (with_reducible repeat (first | apply Kd.S_alloc | apply Kd.S_drewN | apply Kd.S_drew)); exact HO_3.out) (Kd.R_base ho0) hb); have n1_ := Aside0.mk (Kd.R_lower ho0 (below_size bB0)); have n2_ := Aside0.mk (below_step bB0 hb); clear HO_3; clear HB; have HO_3 := n0_; have HO708 := n1_; have HB := n2_; clear n0_ n1_ n2_; (try clear hb); (try clear hb2); (try clear hk); (try clear hi); (try clear ho0); obtain ⟨Ao8, co8, eo8⟩ := Kd.R_slice HO708.out; subst eo8) | ((with_reducible refine gate_builtin (b := .append) (xs := #[.tmp 11, .tmp 17]) rfl ?_); at_builtin; refine Kd.S_append k58 (w0 := w) w.heap.size rfl (.tmp 11) (.tmp 17) 28 58 (.agg #[(.string ⟨#[]⟩), (.slice none 0 0)]) 40 rfl Tryz.underlying28 info58 rfl (by decide) (by omega) u3 x3_1 (⟨t705, t706⟩ : S58) [.string t705, .slice Ao8 t706.length co8] (fun _ => True) (fun k_ => some k_ = (.slice Ao8 t706.length co8 : Value).ownBlock) rfl rfl ?aP (fun k_ hk_ => ((Kd.R_mono (ok' := fun k_ => ((fun _ => True)) k_ ∧ some k_ ≠ (u3 : Value).ownBlock) (Kd.R_apart' (HO708.out) (Kd.S_typed HO_3.out) (by decide)) (fun k_ hk => ⟨trivial, hk.2⟩))).1 k_ hk_.symm) ?aF ?aO ?aB ?aS ?aL ?_; (case aP => exact k58_mkM _ _ _ (⟨t705, t706⟩ : S58) (Kd.R_mono (Kd.R_tight rfl (Kd.R_mono (ok' := fun k_ => ((fun _ => True)) k_ ∧ some k_ ≠ (u3 : Value).ownBlock) (Kd.R_apart' (HO708.out) (Kd.S_typed HO_3.out) (by decide)) (fun k_ hk => ⟨trivial, hk.2⟩))) (fun _ h_ => h_))); (case aB => exact bB0); (case aF => exact (fun _ _ => trivial)); (case aO => exact (by (with_reducible repeat (first | apply Kd.S_alloc | apply Kd.S_drewN | apply Kd.S_drew)); exact Kd.S_mono HO_3.out (fun k_ hk => ⟨trivial, fun e_ => hk.2 e_⟩))); (case aS => exact (below_size bB0)); (case aL => have := LMc5.out; omega); intro v710 w7 ho hb hg hat; rw [← Ny709.out] at ho; have n0_ := Aside0.mk (hb); have n1_ := Aside0.mk (ho); clear HB; clear HO_3; clear HO708; have HB := n0_; have HO711 := n1_; clear n0_ n1_; clear ho hb hg hat))
      go_roundg k1
      case measure => have := HK1.out; omega
      case rel => exact ⟨(y709), (wrap64 (x4_1 + 1)), (by first | rfl | (simp; done) | (simp [*]; done)), H', ⟨by have := HK1.out; omega⟩, ⟨by (with_reducible repeat (first | apply Kd.S_alloc | apply Kd.S_drewN | apply Kd.S_drew)); exact HO711.out⟩, ⟨bB0⟩⟩
     ·rw [if_neg c5] at H
      exact absurd H (by simp)
    ·rw [if_neg c3] at H
     exact absurd H (by simp)
   ·rw [if_neg c2] at H
    have c2b0 : decide (x4_1 < (l0.length : Int)) = false := decide_eq_false c2
    clear c2
    obtain rfl := Option.some.inj H
    go_wp2
    go_ret
    exact ⟨_, eW, by (with_reducible repeat (first | apply Kd.S_alloc | apply Kd.S_drewN | apply Kd.S_drew)); exact HO_3.out, bB0⟩
end Go.Proofs.YtghommaokdhjmaaGreat.P
/- The statements' copy of a trace with another one behind it: read as one trace. -/
namespace Go.Proofs.YtghommaokdhjmaaGreat.Sat
open Go.RowKit Go.Lib Go.Sort Go.Proofs.SymP Go.Proofs.YtghommaokdhjmaaGreatW.PrintWords P FactC IRow Frm SpecM SpecB PSat PSpec CmpF BothB SortStr Str
def wideF (y : S58) : Prop := y.f1.length < 4398046511104
theorem twinF_loop (l : List S58) (hf : ∀ y ∈ l, wideF y) (hl : l.length ≤ 100000) : ∀ (m i : Nat), i + m = l.length → ∀ acc : List S58, acc.length ≤ i → Ev (fun k => qf13.l0 k l acc i) (acc ++ l.drop i) := by
 intro m
 induction m with
 | zero =>
  intro i h acc _
  refine Ev.step (fun k => by rw [qf13.l0, if_neg (by omega)]) ?_
  rw [List.drop_eq_nil_of_le (by omega), List.append_nil]
  exact Ev.now _
 | succ m ih =>
  intro i h acc ha
  have hi : i < l.length := by omega
  have hx := hf l[i] (List.getElem_mem hi)
  unfold wideF at hx
  refine Ev.step (fun k => by rw [qf13.l0, if_pos (by omega), if_pos (by omega), rd58_get hi, qf31.f, if_pos (by simp; omega), Option.bind_some, if_pos (by omega), show wrap64 ((i : Int) + 1) = ((i + 1 : Nat) : Int) by unfold wrap64; omega]) ?_
  have := ih (i + 1) (by omega) (acc ++ [l[i]]) (by simp; omega)
  rw [List.drop_eq_getElem_cons hi]
  simpa using this
theorem ev_twinF {l : List S58} (hf : ∀ y ∈ l, wideF y) (hl : l.length ≤ 100000) : Ev (fun k => qf13.f k l) l := by
 have := twinF_loop l hf hl l.length 0 (by omega) [] (by simp)
 simpa [qf13.f] using this
end Go.Proofs.YtghommaokdhjmaaGreat.Sat
/- The reference's Wrong, Bind; keep.Facts of a trace and its like: what they answer. -/
namespace Go.Proofs.YtghommaokdhjmaaGreat.Sat
open Go.RowKit Go.Lib Go.Sort Go.Proofs.SymP Go.Proofs.YtghommaokdhjmaaGreatW.PrintWords P FactC IRow Frm SpecM SpecB PSat PSpec CmpF BothB SortStr Str
section
variable {w : World} {A L : Option Addr} {n c lc : Nat} {l : List S62} {pn an : ByteArray} {ts : List S92}
set_option maxHeartbeats 8000000 in
set_option maxRecDepth 1000000 in
theorem rwrong_calls {T : Option Addr} {tn tc p : Nat} {t : List S58} {bs r : List S66} {m s is : Bool} (h : PatW w A L n c lc l pn an ts) (ht : TRow w T tn tc t) (hft : ∀ y ∈ t, fitF y) (hp : p < tn) (htn : tn ≤ 1000000) (hn1 : 1 ≤ n)
  (hone : (if an = (rd_T58 t (p : Int)).f0 ∧ ts.length = (rd_T58 t (p : Int)).f1.length then matchR ts (rd_T58 t (p : Int)).f1 [] else ([], false)) = (bs, m))
  (hsat : m = true → ∀ W V vc, Go.RowKit.Below w.heap.size w W → bs.length ≤ vc → Kd.C k66 W V bs.length bs → Calls Tryz.prog 25 #[.slice L n lc, .int .i64 ((n : Int) - 1), .slice T tn tc, .int .i64 (p : Int), .slice V bs.length vc] W fun e w' => e = .returned (.bool s) ∧ Go.RowKit.Below W.heap.size W w')
  (hc : (m = false ∧ r = [] ∧ is = false) ∨ (m = true ∧ s = true ∧ r = [] ∧ is = false) ∨ (m = true ∧ s = false ∧ r = bs ∧ is = true)) :
  Calls Tryz.prog 19 #[.agg #[.string pn, .string an, .slice A ts.length c, .slice L n lc], .slice T tn tc, .int .i64 (p : Int)] w fun e w' => (∃ V vc, e = .returned (.tuple #[.slice V r.length vc, .bool is]) ∧ r.length ≤ vc ∧ Kd.C k66 w' V r.length r) ∧ Go.RowKit.Below w.heap.size w w' := by
 have hu := Tryz.underlying27
 have hu2 := Tryz.underlying58
 have hu3 := Tryz.underlying25
 obtain ⟨ad, A1, c1, eT, y0, y1, y2, y3⟩ := at_T58 ht.C (p : Int) (by omega) (by omega)
 generalize rd_T58 t (p : Int) = y at *
 rw [show ((p : Int)).toNat * 2 = p * 2 by omega] at y0 y1
 have H3 : Aside0 (∀ W, Go.RowKit.Below w.heap.size w W → Calls Tryz.prog 46 #[.agg #[.string an, .slice A ts.length c], .agg #[.string y.f0, .slice A1 y.f1.length c1], .slice none 0 0] W fun e w' => ∃ V vc, e = .returned (.tuple #[.slice V bs.length vc, .bool m]) ∧ (bs.length ≤ vc ∧ Kd.C k66 w' V bs.length bs) ∧ Go.RowKit.Below W.heap.size W w') := ⟨fun W hW => rmatch_calls (B := none) (bc := 0) (l := []) an y.f0 (Kd.C_below h.hA hW) h.hcap (Kd.C_below y3 hW) y2 ⟨rfl, Nat.le_refl 0, ⟨rfl, Nat.zero_le _, fun h => absurd (show 0 < 0 from h) (Nat.lt_irrefl 0)⟩⟩ (Nat.zero_le _) h.hx.2.1 (by have := h.hx.2.2; simp at this; omega) hone⟩
 have H4 := Aside0.mk hsat
 have htc := ht.cap
 have hq1 : (0 : Int) ≤ (p : Int) := by omega
 have hq2 : (p : Int) < (tn : Int) := by omega
 have kw0 : IntKind.i64.wrap ((n : Int) - 1) = (n : Int) - 1 := kwrap (by omega) (by have := h.hf.2; have := h.hl.len; omega)
 subst eT
 clear h ht hft hone hsat y2 y3
 have hb0 : Go.RowKit.Below w.heap.size w (w.alloc (.cells #[.string pn, .string an, .slice A ts.length c, .slice L n lc] 27)) := (Go.RowKit.Below.refl _ w).alloc (Nat.le_refl _) _
 go_enter Tryz.func19, Tryz.ntmps19
 go_upto_region 1 with fail
 refine wp_world (fun V => V.cell? ⟨w.heap.size, 1, none⟩ = some (.string an) ∧ V.cell? ⟨w.heap.size, 2, none⟩ = some (.slice A ts.length c) ∧ V.cell? ⟨w.heap.size, 3, none⟩ = some (.slice L n lc) ∧ V.cell? (ad.add (p * 2)) = some (.string y.f0) ∧ V.cell? ⟨(ad.add (p * 2)).block, (ad.add (p * 2)).off + 1, none⟩ = some (.slice A1 y.f1.length c1) ∧ Go.RowKit.Below w.heap.size w V) ⟨by simp, by simp, by simp, mvc hb0 y0, mvc hb0 y1, hb0⟩ ?_
 clear hb0 y0 y1
 rintro w2 ⟨z1, z2, z3, y0, y1, hb2⟩
 have HB0 := Aside0.mk hb2
 clear hb2
 have hd2 : Go.RowKit.Below w2.heap.size w2 w2.drew := below_drew1 (Go.RowKit.Below.refl _ _)
 have H3' : Aside0 (Calls Tryz.prog 46 #[.agg #[.string an, .slice A ts.length c], .agg #[.string y.f0, .slice A1 y.f1.length c1], .slice none 0 0] w2.drew fun e w' => ∃ V vc, e = .returned (.tuple #[.slice V bs.length vc, .bool m]) ∧ (bs.length ≤ vc ∧ Kd.C k66 w' V bs.length bs) ∧ Go.RowKit.Below w2.heap.size w2 w') := ⟨(H3.out w2.drew (HB0.out.trans (hd2.mono HB0.out.size))).mono fun e w' hh => by
  obtain ⟨V, vc, h1, h2, h3⟩ := hh
  exact ⟨V, vc, h1, h2, hd2.trans h3⟩⟩
 clear H3 hd2
 rcases hc with ⟨rfl, rfl, rfl⟩ | ⟨rfl, rfl, rfl, rfl⟩ | ⟨rfl, rfl, rfl, rfl⟩
 all_goals (
  go_region_held3 (fun w' => w'.cell? ⟨w.heap.size, 1, none⟩ = some (.string an) ∧ w'.cell? ⟨w.heap.size, 2, none⟩ = some (.slice A ts.length c) ∧ w'.cell? (ad.add (p * 2)) = some (.string y.f0) ∧ w'.cell? ⟨(ad.add (p * 2)).block, (ad.add (p * 2)).off + 1, none⟩ = some (.slice A1 y.f1.length c1))
   (first | (refine ⟨?_, ?_, ?_, ?_⟩ <;> assumption) | go_keep)
   (first
    | (go_at_call 46; (with_reducible refine H3'.out.mono ?_); rintro e w3 ⟨V, vc, rfl, hV, hb⟩; have HB3 := Aside0.mk (HB0.out.trans (hb.mono HB0.out.size)); have HV := Aside0.mk hV; replace z1 := mvc hb z1; replace z2 := mvc hb z2; replace z3 := mvc hb z3; replace y0 := mvc hb y0; replace y1 := mvc hb y1; clear hb hV)
    | fail)
  all_goals (
   go_wp2_with (first
    | (go_at_call 25; (with_reducible refine (H4.out (by first | trivial | rfl) _ V vc HB3.out HV.out.1 HV.out.2).mono ?_); rintro e w4 ⟨rfl, hb⟩; have HB4 := Aside0.mk (HB3.out.trans (hb.mono HB3.out.size)); have HV4 := Aside0.mk (Kd.C_below HV.out.2 hb); clear hb)
    | fail)
   go_ret2
   first
    | exact ⟨⟨_, _, rfl, HV.out.1, HV4.out⟩, HB4.out⟩
    | exact ⟨⟨none, 0, rfl, Nat.zero_le _, ⟨rfl, Nat.zero_le _, fun h => absurd h (Nat.lt_irrefl 0)⟩⟩, HB4.out⟩
    | exact ⟨⟨none, 0, rfl, Nat.zero_le _, ⟨rfl, Nat.zero_le _, fun h => absurd h (Nat.lt_irrefl 0)⟩⟩, HB3.out⟩))
set_option maxHeartbeats 8000000 in
set_option maxRecDepth 1000000 in
theorem rbindf_calls {B : Option Addr} {bn bc : Nat} {b : List S66} (h : NRow w L n lc l) (hf : fitNs l) (hk : chkN l = 0) (hb : BRow w B bn bc b) (hbn : bn ≤ 1000000) : Calls Tryz.prog 23 #[.slice L n lc, .slice B bn bc] w fun e w' => e = .returned (.bool (!unbP l b)) ∧ Go.RowKit.Below w.heap.size w w' := by
 obtain ⟨hV, hVl⟩ := rvars_all h hf hk
 obtain ⟨_, hne, hn40⟩ := chk_inL hk
 have hn := h.len
 have hn1 : 1 ≤ n := by have := List.length_pos_iff.2 hne; omega
 have en : (n : Int) - 1 = ((n - 1 : Nat) : Int) := by omega
 have kw0 : IntKind.i64.wrap ((n : Int) - 1) = (n : Int) - 1 := kwrap (by omega) (by have := hf.2; omega)
 have H3 : Aside0 (Calls Tryz.prog 43 #[.slice L n lc, .int .i64 ((n : Int) - 1)] w fun e w' => ∃ V vc, e = .returned (.slice V (sortO (varsN l)).length vc) ∧ SRow w' w.heap.size (.slice V (sortO (varsN l)).length vc) (sortO (varsN l)) ∧ Go.RowKit.Below w.heap.size w w') := ⟨by rw [en]; exact hV w (Go.RowKit.Below.refl _ _)⟩
 have hres : (!unbP l b) = (sortO (varsN l)).all fun s => (getP b s).2.2.2 := by
  unfold unbP
  rw [Bool.eq_iff_iff, Bool.not_eq_true', List.any_eq_false, List.all_eq_true]
  constructor
  ·intro h s hs
   have := h s (sortO_mem.1 hs)
   simpa using this
  ·intro h s hs
   have := h s (sortO_mem.2 hs)
   simp [this]
 rw [hres]
 have hus : (sortO (varsN l)).length ≤ 100000 := hVl
 clear hres hV hVl hne hn40
 generalize sortO (varsN l) = us at *
 have HB := Aside0.mk hb
 have hlc := h.cap
 clear hb h hf hk en
 obtain ⟨mu, hmu⟩ : ∃ mu, us.length = mu := ⟨_, rfl⟩
 obtain ⟨res, hres⟩ : ∃ res, (us.all fun s => (getP b s).2.2.2) = res := ⟨_, rfl⟩
 rw [hres]
 rw [hmu] at H3
 have HRES := Aside0.mk hres
 clear hres
 go_enter Tryz.func23, Tryz.ntmps23
 go_wp2_with (first
  | (go_at_call 43; with_reducible refine H3.out.mono ?_; rintro e w1 ⟨V, vc, rfl, hS, hb1⟩; have HBw := Aside0.mk hb1; have S0 := Aside0.mk (SC.of hS hmu); clear hb1 hS)
  | fail)
 go_loopg [6] mu (fun gg s6 wr => ∃ (j : Nat), s6 = .int .i64 j ∧ j ≤ mu ∧ mu - j ≤ gg ∧ Aside0 ((∀ s ∈ us.take j, (getP b s).2.2.2 = true) ∧ SC wr V mu vc us ∧ Go.RowKit.Below w.heap.size w wr))
 case atStart => exact ⟨0, rfl, Nat.zero_le _, Nat.le_refl _, ⟨fun s hs => by simp at hs, S0.out, HBw.out⟩⟩
 case round =>
  obtain ⟨j, rfl, hj, hg, HI⟩ := hrel
  by_cases hlt : j < mu
  ·have hltz : (j : Int) < (mu : Int) := by omega
   have hj2 : j < us.length := by omega
   have hj0 : (0 : Int) ≤ (j : Int) := by omega
   obtain ⟨g, hV, hcl⟩ := HI.out.2.1.cells (by omega)
   subst hV
   have kc := hcl j hj2
   have HC := Aside0.mk (@rget_calls wr B bn bc b (HB.out.below HI.out.2.2) hbn us[j])
   have hmem : us[j] ∈ us := List.getElem_mem hj2
   have htk : ∀ s ∈ us.take (j + 1), s ∈ us.take j ∨ s = us[j] := fun s hs => by
    rw [List.take_succ_eq_append_getElem hj2] at hs
    exact (List.mem_append.1 hs).imp id List.mem_singleton.1
   have hcap := HI.out.2.1.cap
   generalize us[j] = x at *
   clear hcl
   cases hgx : (getP b x).2.2.2 with
   | true =>
    rw [hgx] at HC
    have HN : Aside0 (∀ s ∈ us.take (j + 1), (getP b s).2.2.2 = true) := ⟨fun s hs => by
     rcases htk s hs with hs | rfl
     ·exact HI.out.1 s hs
     ·exact hgx⟩
    clear htk hmem hgx HRES
    go_wp2_with (first
     | (go_at_call 54; with_reducible refine HC.out.mono ?_; rintro e w3 ⟨rfl, hb3⟩; have HB3 := Aside0.mk hb3; clear hb3)
     | fail)
    go_roundg (mu - (j + 1))
    case measure => omega
    case rel =>
     have hal := HB3.out.alloc HB3.out.size (.cells #[.int .i64 (getP b x).1, .int .i64 (getP b x).2.1, .string (getP b x).2.2.1] 64)
     exact ⟨j + 1, by go_num, by omega, by omega, ⟨HN.out, HI.out.2.1.below hal, HI.out.2.2.trans (hal.mono HI.out.2.2.size)⟩⟩
   | false =>
    rw [hgx] at HC
    obtain rfl : res = false := by
     rw [← HRES.out]
     rw [List.all_eq_false]
     exact ⟨x, hmem, by simp [hgx]⟩
    clear htk hmem hgx HRES
    go_wp2_with (first
     | (go_at_call 54; with_reducible refine HC.out.mono ?_; rintro e w3 ⟨rfl, hb3⟩; have HB3 := Aside0.mk hb3; clear hb3)
     | fail)
    go_ret
    have hal := HB3.out.alloc HB3.out.size (.cells #[.int .i64 (getP b x).1, .int .i64 (getP b x).2.1, .string (getP b x).2.2.1] 64)
    exact ⟨rfl, HI.out.2.2.trans (hal.mono HI.out.2.2.size)⟩
  ·have hltz : ¬ (j : Int) < (mu : Int) := by omega
   obtain rfl : mu = j := by omega
   obtain rfl : res = true := by
    rw [← HRES.out, List.all_eq_true]
    have := HI.out.1
    rw [List.take_of_length_le (by omega)] at this
    exact this
   go_wp2
   go_ret
   exact ⟨rfl, HI.out.2.2⟩
end
end Go.Proofs.YtghommaokdhjmaaGreat.Sat
/- What the four laws' walks share: the contracts over rows that are read, the place, the answers. -/
namespace Go.Proofs.YtghommaokdhjmaaGreat.Sat
open Go.RowKit Go.Lib Go.Sort Go.Proofs.SymP Go.Proofs.YtghommaokdhjmaaGreatW.PrintWords P FactC IRow Frm SpecM SpecB PSat PSpec CmpF BothB SortStr Str
section
variable {W : World} {A B T D : Option Addr} {n n2 c c2 tn tc bn bc : Nat} {l m : List S62} {t : List S58} {b : List S66}
theorem cHeavyN {v : Bool} (h : NRow W A n c l) (hv : Ev (fun k => qf9.f k l) v) : Calls Tryz.prog 9 #[.slice A n c] W fun e w' => e = .returned (.bool v) ∧ Go.RowKit.Below W.heap.size W w' := by
 obtain rfl := h.len
 obtain ⟨k, hk⟩ := hv.rounds
 exact qf9.calls k A c l _ W h.C h.cap hk
theorem cLong {v : Bool} (h : TRow W T tn tc t) (hv : Ev (fun k => qf11.f k t) v) : Calls Tryz.prog 11 #[.slice T tn tc] W fun e w' => e = .returned (.bool v) ∧ Go.RowKit.Below W.heap.size W w' := by
 obtain rfl := h.len
 obtain ⟨k, hk⟩ := hv.rounds
 exact qf11.calls k T tc t _ W h.C h.cap hk
theorem cHeavyB {v : Bool} (h : BRow W B bn bc b) (hv : heavyP b = v) : Calls Tryz.prog 12 #[.slice B bn bc] W fun e w' => e = .returned (.bool v) ∧ Go.RowKit.Below W.heap.size W w' := by
 obtain rfl := h.len
 subst hv
 obtain ⟨k, hk⟩ := (ev_heavy b).rounds
 exact (qf12.calls k B bc b _ W h.C h.cap hk).mono fun e w' h => ⟨h.1, h.2.below⟩
end
theorem holdsV_err {l : List S62} {t : List S58} {b : List S66} {i : Int} (h : holdsE l t i b ≠ 0) : holdsV l t i b = false := by unfold holdsV; rw [if_neg h]
theorem holdsV_ok {l : List S62} {t : List S58} {b : List S66} {p : Nat} (h : holdsE l t (p : Int) b = 0) : holdsV l t (p : Int) b = semP (evP t b) l p := by unfold holdsV; rw [if_pos h]; rfl
theorem place (i : Int) (tn : Nat) (h : 0 < tn) (h2 : tn ≤ 14) : ∃ p : Nat, wrap64 ((IntKind.u64.wrap i).tmod ↑tn) = ↑p ∧ p < tn := by
 have h0 : 0 ≤ IntKind.u64.wrap i := by unfold IntKind.wrap; simp [IntKind.bits, IntKind.signed]; omega
 have h3 := Int.tmod_nonneg (tn : Int) h0
 have h4 := Int.tmod_lt_of_pos (IntKind.u64.wrap i) (show (0 : Int) < tn by omega)
 generalize (IntKind.u64.wrap i).tmod ↑tn = r at *
 clear h0
 refine ⟨r.toNat, ?_, by omega⟩
 unfold wrap64
 omega
end Go.Proofs.YtghommaokdhjmaaGreat.Sat
/- SatWrong, walked by hand: whatever the input, it answers true. -/
namespace Go.Proofs.YtghommaokdhjmaaGreat.Sat
open Go.RowKit Go.Lib Go.Sort Go.Proofs.SymP Go.Proofs.YtghommaokdhjmaaGreatW.PrintWords P FactC IRow Frm SpecM SpecB PSat PSpec CmpF BothB SortStr Str
def HC (z tr : Int) (m s : Bool) (bs r : List S66) (is : Bool) (er : Int) : Prop := (z ≠ 0 ∧ r = [] ∧ is = false ∧ er = z) ∨ (z = 0 ∧ tr ≠ 0 ∧ r = [] ∧ is = false ∧ er = tr) ∨ (z = 0 ∧ tr = 0 ∧ m = false ∧ r = [] ∧ is = false ∧ er = 0) ∨ (z = 0 ∧ tr = 0 ∧ m = true ∧ s = true ∧ r = [] ∧ is = false ∧ er = 0) ∨ (z = 0 ∧ tr = 0 ∧ m = true ∧ s = false ∧ r = bs ∧ is = true ∧ er = 0)
theorem res_ex (z tr : Int) (m s : Bool) (bs : List S66) (hb : bs.length ≤ 100) : ∃ r is er, HC z tr m s bs r is er ∧ r.length ≤ 100 := by
 by_cases hz : z = 0
 ·by_cases ht : tr = 0
  ·cases m
   ·exact ⟨[], false, 0, .inr (.inr (.inl ⟨hz, ht, rfl, rfl, rfl, rfl⟩)), by simp⟩
   ·cases s
    ·exact ⟨bs, true, 0, .inr (.inr (.inr (.inr ⟨hz, ht, rfl, rfl, rfl, rfl, rfl⟩))), hb⟩
    ·exact ⟨[], false, 0, .inr (.inr (.inr (.inl ⟨hz, ht, rfl, rfl, rfl, rfl, rfl⟩))), by simp⟩
  ·exact ⟨[], false, tr, .inr (.inl ⟨hz, ht, rfl, rfl, rfl⟩), by simp⟩
 ·exact ⟨[], false, z, .inl ⟨hz, rfl, rfl, rfl⟩, by simp⟩
theorem long_len {l : List S58} {b : Bool} (e : Ev (fun k => qf11.f k l) b) (hb : b = false) : l.length ≤ 203 := by
 subst hb
 obtain ⟨k, hk⟩ := e.rounds
 rcases Nat.lt_or_ge 203 l.length with h | h
 ·unfold qf11.f at hk
  rw [if_pos (by omega), if_neg (by omega), if_pos (by omega)] at hk
  simp at hk
 ·exact h
section
variable {w : World} {A L : Option Addr} {n c lc : Nat} {l : List S62} {pn an : ByteArray} {ts : List S92}
theorem sameB {W : World} {V V2 : Option Addr} {vc vc2 : Nat} {r : List S66} (h1 : r.length ≤ vc) (h2 : Kd.C k66 W V r.length r) (h3 : r.length ≤ vc2) (h4 : Kd.C k66 W V2 r.length r) (hl : r.length ≤ 100) : Calls Tryz.prog 20 #[.slice V r.length vc, .slice V2 r.length vc2] W fun e w' => e = .returned (.bool true) ∧ Go.RowKit.Below W.heap.size W w' := by
 obtain ⟨k, hk⟩ := (ev_binds (a := r) (by omega) r).rounds
 rw [decide_eq_true rfl] at hk
 exact (qf20.calls k V vc r V2 vc2 r _ W h2 h1 h4 h3 hk).mono fun e w' h => ⟨h.1, h.2.below⟩
end
end Go.Proofs.YtghommaokdhjmaaGreat.Sat
/- sat.Wrong, sat.Holds where the trace is too long, or the place is none: why not; the references' trace. -/
namespace Go.Proofs.YtghommaokdhjmaaGreat.Sat
open Go.RowKit Go.Lib Go.Sort Go.Proofs.SymP Go.Proofs.YtghommaokdhjmaaGreatW.PrintWords P FactC IRow Frm SpecM SpecB PSat PSpec CmpF BothB SortStr Str
theorem fact01 (a : ByteArray) (vs : List S64) : factP a vs = 0 ∨ factP a vs = 1 := by
 unfold factP
 split
 ·exact .inl rfl
 ·exact .inr rfl
theorem rtr_eq (l : List S58) : rtrP l = trP l := by
 unfold rtrP trP
 by_cases h : 200 < l.length
 ·rw [if_pos h, if_pos h]
 ·rw [if_neg h, if_neg h]
  induction l with
  | nil => rfl
  | cons f l ih =>
   have ih := ih (by rw [List.length_cons] at h; omega)
   rw [trL, List.all_cons]
   rcases fact01 f.f0 f.f1 with e | e
   ·rw [if_pos e, decide_eq_true e, Bool.true_and]; exact ih
   ·rw [decide_eq_false (show ¬ factP f.f0 f.f1 = 0 by omega), Bool.false_and, if_neg (show ¬ factP f.f0 f.f1 = 0 by omega), e]; rfl
theorem cTraceX {W : World} {T : Option Addr} {tn tc : Nat} {t : List S58} (h : TRow W T tn tc t) (hft : tn ≤ 200 → ∀ y ∈ t, fitF y) (htn : tn ≤ 1000000) : Calls Tryz.prog 33 #[.slice T tn tc] W fun e w' => e = .returned (.int .i64 (trP t)) ∧ Go.RowKit.Below W.heap.size W w' := by
 obtain rfl := h.len
 have he : Ev (fun k => trace_Check.f k t) (trP t) := by
  by_cases h2 : t.length ≤ 200
  ·exact ev_trace (hft h2) htn
  ·unfold trace_Check.f trP
   rw [if_pos (by omega)]
   simp only [if_pos (show (t.length : Int) > 200 by omega)]
   exact Ev.now _
 obtain ⟨k, hk⟩ := he.rounds
 exact trace_Check.calls k T tc t _ W h.C h.cap hk
theorem cRTraceX {W : World} {T : Option Addr} {tn tc : Nat} {t : List S58} (h : TRow W T tn tc t) (hft : tn ≤ 200 → ∀ y ∈ t, fitF y) (htn : tn ≤ 1000000) : Calls Tryz.prog 18 #[.slice T tn tc] W fun e w' => e = .returned (.int .i64 (trP t)) ∧ Go.RowKit.Below W.heap.size W w' := by
 obtain rfl := h.len
 have he : Ev (fun k => qf18.f k t) (trP t) := by
  rw [← rtr_eq]
  by_cases h2 : t.length ≤ 200
  ·exact ev_rtrace (hft h2) htn
  ·unfold qf18.f rtrP
   rw [if_pos (by omega)]
   simp only [if_pos (show (t.length : Int) > 200 by omega)]
   exact Ev.now _
 obtain ⟨k, hk⟩ := he.rounds
 exact qf18.calls k T tc t _ W h.C h.cap hk
set_option maxHeartbeats 8000000 in
set_option maxRecDepth 1000000 in
theorem HoldsX {w : World} {A T B : Option Addr} {n c tn tc bn bc : Nat} {i : Int} {t : List S58} {b : List S66} {l : List S62} (hl : NRow w A n c l) (ht : TRow w T tn tc t) (hb : BRow w B bn bc b) (hf : fitNs l) (hfb : fitB b = true) (hft : tn ≤ 200 → ∀ y ∈ t, fitF y) (htn : tn ≤ 1000000) (hbn : bn ≤ 1000000) :
  Calls Tryz.prog 14 #[.slice A n c, .slice T tn tc, .int .i64 i, .slice B bn bc] w fun e w' => e = .returned (.tuple #[.bool (holdsV l t i b), .int .i64 (holdsE l t i b)]) ∧ Go.RowKit.Below w.heap.size w w' := by
 by_cases h : tn ≤ 200
 ·exact Holds_calls hl ht hb hf hfb (hft h) htn hbn
 ·have h2 : trP t = 2 := by unfold trP; rw [if_pos (by have := ht.len; omega)]
  have hE : holdsE l t i b = if chkN l ≠ 0 then chkN l else 2 := by
   unfold holdsE
   rw [h2]
   split
   ·rfl
   ·rw [if_pos (by decide)]
  have hV : holdsV l t i b = false := by
   unfold holdsV
   rw [if_neg]
   rw [hE]
   split
   ·assumption
   ·decide
  have H1 : Aside0 (Calls Tryz.prog 32 #[.slice A n c] w fun e w' => e = .returned (.int .i64 (chkN l)) ∧ Go.RowKit.Below w.heap.size w w') := ⟨check_calls hl hf⟩
  have H2 : Aside0 (∀ W, Go.RowKit.Below w.heap.size w W → Calls Tryz.prog 33 #[.slice T tn tc] W fun e w' => e = .returned (.int .i64 2) ∧ Go.RowKit.Below W.heap.size W w') := ⟨fun W hW => h2 ▸ cTraceX (ht.below hW) hft htn⟩
  rw [hE, hV]
  clear hE hV h2 hl ht hb hf hfb hft
  by_cases e1 : chkN l = 0
  ·rw [e1] at H1 ⊢
   rw [if_neg (by decide)]
   go_enter Tryz.func14, Tryz.ntmps14
   go_wp2_with (first
    | (go_at_call 32; with_reducible refine H1.out.mono ?_; rintro e w1 ⟨rfl, hb⟩; have HB1 := Aside0.mk hb; clear hb)
    | (go_at_call 33; with_reducible refine (H2.out _ HB1.out).mono ?_; rintro e w2 ⟨rfl, hb⟩; have HB2 := Aside0.mk (HB1.out.trans (hb.mono HB1.out.size)); clear hb)
    | fail)
   go_ret2
   exact ⟨rfl, HB2.out⟩
  ·rw [if_pos e1]
   generalize chkN l = k at *
   have d1 := beq_false_of_ne e1
   have d2 := bne_iff_ne.2 e1
   go_enter Tryz.func14, Tryz.ntmps14
   go_wp2_with (first
    | (go_at_call 32; with_reducible refine H1.out.mono ?_; rintro e w1 ⟨rfl, hb⟩; have HB1 := Aside0.mk hb; clear hb)
    | fail)
   go_ret2
   exact ⟨rfl, HB1.out⟩
section
variable {w : World} {A L : Option Addr} {n c lc : Nat} {l : List S62} {pn an : ByteArray} {ts : List S92}
set_option maxHeartbeats 8000000 in
set_option maxRecDepth 1000000 in
theorem wrongO {T : Option Addr} {tn tc : Nat} {t : List S58} {i z tr er : Int} (h : PatW w A L n c lc l pn an ts) (hz : ∀ W, Go.RowKit.Below w.heap.size w W → Calls Tryz.prog 38 #[.agg #[.string pn, .string an, .slice A ts.length c, .slice L n lc]] W fun e w' => e = .returned (.int .i64 z) ∧ Go.RowKit.Below W.heap.size W w') (ht : TRow w T tn tc t) (hft : tn ≤ 200 → ∀ y ∈ t, fitF y) (htn : tn ≤ 1000000) (htr : trP t = tr)
  (hc : (z ≠ 0 ∧ er = z) ∨ (z = 0 ∧ tr ≠ 0 ∧ er = tr) ∨ (z = 0 ∧ tr = 0 ∧ ¬ (0 ≤ i ∧ i < (tn : Int)) ∧ er = 1)) :
  Calls Tryz.prog 15 #[.agg #[.string pn, .string an, .slice A ts.length c, .slice L n lc], .slice T tn tc, .int .i64 i] w fun e w' => e = .returned (.tuple #[.slice none 0 0, .bool false, .int .i64 er]) ∧ Go.RowKit.Below w.heap.size w w' := by
 have hu := Tryz.underlying27
 have H1 := Aside0.mk hz
 have H2 : Aside0 (∀ W, Go.RowKit.Below w.heap.size w W → Calls Tryz.prog 33 #[.slice T tn tc] W fun e w' => e = .returned (.int .i64 tr) ∧ Go.RowKit.Below W.heap.size W w') := ⟨fun W hW => htr ▸ cTraceX (ht.below hW) hft htn⟩
 have htc := ht.cap
 clear h ht hft htr hz
 have hb0 : Go.RowKit.Below w.heap.size w (w.alloc (.cells #[.string pn, .string an, .slice A ts.length c, .slice L n lc] 27)) := (Go.RowKit.Below.refl _ w).alloc (Nat.le_refl _) _
 have hcs : (z ≠ 0 ∧ er = z) ∨ (z = 0 ∧ tr ≠ 0 ∧ er = tr) ∨ (z = 0 ∧ tr = 0 ∧ decide (i < 0) = true ∧ er = 1) ∨ (z = 0 ∧ tr = 0 ∧ (decide (i < 0) = false ∧ decide ((tn : Int) ≤ i) = true) ∧ er = 1) := by
  rcases hc with h | h | ⟨h, h2, h4, h3⟩
  ·exact .inl h
  ·exact .inr (.inl h)
  ·by_cases h0 : i < 0
   ·exact .inr (.inr (.inl ⟨h, h2, decide_eq_true h0, h3⟩))
   ·exact .inr (.inr (.inr ⟨h, h2, ⟨decide_eq_false h0, decide_eq_true (by omega)⟩, h3⟩))
 clear hc
 rcases hcs with ⟨d, rfl⟩ | ⟨rfl, d, rfl⟩ | ⟨rfl, rfl, d, rfl⟩ | ⟨rfl, rfl, ⟨d, d1⟩, rfl⟩
 all_goals (
  (try have d2 := beq_false_of_ne d)
  (try have d3 := bne_iff_ne.2 d)
  go_enter Tryz.func15, Tryz.ntmps15
  go_upto_region 1 with fail
  have HB0 := Aside0.mk hb0
  clear hb0
  go_wp2_with (first
   | (go_at_call 38; with_reducible refine (H1.out _ HB0.out).mono ?_; rintro e w1 ⟨rfl, hb⟩; replace HB0 := Aside0.mk (HB0.out.trans (hb.mono HB0.out.size)); clear hb)
   | (go_at_call 33; with_reducible refine (H2.out _ HB0.out).mono ?_; rintro e w1 ⟨rfl, hb⟩; replace HB0 := Aside0.mk (HB0.out.trans (hb.mono HB0.out.size)); clear hb)
   | fail)
  go_ret3
  exact ⟨rfl, HB0.out⟩)
theorem wrongX {tn : Nat} {t : List S58} {i z : Int} (h : PatW w A L n c lc l pn an ts) (hz : ∀ W, Go.RowKit.Below w.heap.size w W → Calls Tryz.prog 38 #[.agg #[.string pn, .string an, .slice A ts.length c, .slice L n lc]] W fun e w' => e = .returned (.int .i64 z) ∧ Go.RowKit.Below W.heap.size W w') (hz1 : z = 0 → rightB l pn an ts = true ∧ subB l ts = true) (htl : t.length = tn) (hft : tn ≤ 200 → ∀ y ∈ t, fitF y) (htn : tn ≤ 1000000) :
  ∃ (r : List S66) (is : Bool) (er : Int), r.length ≤ 100 ∧ (∀ W X xc, Go.RowKit.Below w.heap.size w W → TRow W X tn xc t → Calls Tryz.prog 15 #[.agg #[.string pn, .string an, .slice A ts.length c, .slice L n lc], .slice X tn xc, .int .i64 i] W fun e w' => (∃ V vc, e = .returned (.tuple #[.slice V r.length vc, .bool is, .int .i64 er]) ∧ r.length ≤ vc ∧ Kd.C k66 w' V r.length r) ∧ Go.RowKit.Below W.heap.size W w') ∧
   ((z ≠ 0 ∧ er = z ∧ is = false ∧ r = []) ∨ (z = 0 ∧ trP t ≠ 0 ∧ er = trP t ∧ is = false ∧ r = []) ∨ (z = 0 ∧ trP t = 0 ∧ ¬ (0 ≤ i ∧ i < (tn : Int)) ∧ er = 1 ∧ is = false ∧ r = []) ∨ (z = 0 ∧ trP t = 0 ∧ (0 ≤ i ∧ i < (tn : Int)) ∧ er = 0 ∧ ∀ W X xc, Go.RowKit.Below w.heap.size w W → TRow W X tn xc t → Calls Tryz.prog 19 #[.agg #[.string pn, .string an, .slice A ts.length c, .slice L n lc], .slice X tn xc, .int .i64 i] W fun e w' => (∃ V vc, e = .returned (.tuple #[.slice V r.length vc, .bool is]) ∧ r.length ≤ vc ∧ Kd.C k66 w' V r.length r) ∧ Go.RowKit.Below W.heap.size W w')) := by
 have go := fun (er : Int) hc W X xc (hW : Go.RowKit.Below w.heap.size w W) (hX : TRow W X tn xc t) => (@wrongO W A L n c lc l pn an ts X tn xc t i z (trP t) er (h.below hW) (fun W' hW' => hz W' (hW.trans (hW'.mono hW.size))) hX hft htn rfl hc).mono fun e w' hh => (⟨⟨none, 0, hh.1, Nat.zero_le _, ⟨rfl, Nat.zero_le _, fun h => absurd h (Nat.lt_irrefl 0)⟩⟩, hh.2⟩ : (∃ V vc, e = .returned (.tuple #[.slice V ([] : List S66).length vc, .bool false, .int .i64 er]) ∧ ([] : List S66).length ≤ vc ∧ Kd.C k66 w' V ([] : List S66).length []) ∧ Go.RowKit.Below W.heap.size W w')
 by_cases q1 : z = 0
 case neg => exact ⟨[], false, z, by simp, go z (.inl ⟨q1, rfl⟩), .inl ⟨q1, rfl, rfl, rfl⟩⟩
 by_cases q2 : trP t = 0
 case neg => exact ⟨[], false, trP t, by simp, go _ (.inr (.inl ⟨q1, q2, rfl⟩)), .inr (.inl ⟨q1, q2, rfl, rfl, rfl⟩)⟩
 by_cases q3 : 0 ≤ i ∧ i < (tn : Int)
 case neg => exact ⟨[], false, 1, by simp, go 1 (.inr (.inr ⟨q1, q2, q3, rfl⟩)), .inr (.inr (.inl ⟨q1, q2, q3, rfl, rfl, rfl⟩))⟩
 clear go
 obtain ⟨hr, hs⟩ := hz1 q1
 have hk : chkN l = 0 ∧ matP an ts = 0 := by
  unfold rightB at hr
  simp at hr
  exact ⟨hr.2.2, hr.2.1⟩
 obtain ⟨h200, hfz⟩ := trP_zero.1 q2
 have hft := hft (by omega)
 obtain ⟨p, rfl⟩ : ∃ p : Nat, i = (p : Int) := ⟨i.toNat, by omega⟩
 have hp : p < tn := by omega
 have hmem : rd_T58 t (p : Int) ∈ t := by rw [rd58_get (show p < t.length by omega)]; exact List.getElem_mem _
 obtain ⟨bs, m, hone⟩ : ∃ bs m, oneP an ts (rd_T58 t (p : Int)).f0 (rd_T58 t (p : Int)).f1 [] = (bs, m) := ⟨_, _, rfl⟩
 have hbs := one_fitB h.hx.2.1 (hft _ hmem).2.1 hone
 have hbl := one_len hone
 obtain ⟨s, hs2⟩ : ∃ s, semP (evP t bs) l p = s := ⟨_, rfl⟩
 obtain ⟨r, is, er, h1, hr1⟩ := res_ex z (trP t) m s bs hbl
 have hone2 : (if an = (rd_T58 t (p : Int)).f0 ∧ ts.length = (rd_T58 t (p : Int)).f1.length then matchR ts (rd_T58 t (p : Int)).f1 [] else ([], false)) = (bs, m) := by
  rw [← hone]
  unfold oneP
  have hfy := hfz _ hmem
  have hc0 : chkP ([] : List S66) = 0 := rfl
  by_cases e : an = (rd_T58 t (p : Int)).f0 ∧ ts.length = (rd_T58 t (p : Int)).f1.length
  ·rw [if_pos e, if_pos ⟨hk.2, hfy, hc0, e⟩]
   exact match_one ts _ [] e.2 hc0 (mat_zero.1 hk.2).2.2 (fact_zero.1 hfy).2.2
  ·rw [if_neg e, if_neg (fun hh => e hh.2.2.2)]
 refine ⟨r, is, er, hr1, fun W X xc hW hX => wrongG (h.below hW) (fun W' hW' => hz W' (hW.trans (hW'.mono hW.size))) (fun _ => hk.1) hX hft htn rfl hp hone hbs hs2 h1, .inr (.inr (.inr ⟨q1, q2, q3, ?_, fun W X xc hW hX => ?_⟩))⟩
 ·rcases h1 with h1 | h1 | h1 | h1 | h1
  ·exact absurd q1 h1.1
  ·exact absurd q2 h1.2.1
  ·exact h1.2.2.2.2.2
  ·exact h1.2.2.2.2.2.2
  ·exact h1.2.2.2.2.2.2
 ·have hn := h.hl.len
  have hn1 : 1 ≤ n := by obtain ⟨_, hne, _⟩ := chk_inL hk.1; have := List.length_pos_iff.2 hne; omega
  refine rwrong_calls (s := s) (h.below hW) hX hft hp htn hn1 hone2 (fun hm W2 V vc hW2 k1 k2 => ?_) ?_
  ·have hE := wrong_holds (t := t) (p := p) hr hs q2 (by omega) (by rw [hone, hm])
   have hcu : chkP bs = 0 ∧ unbP l bs = false := by
    unfold holdsE at hE
    rw [if_neg (by simp [hk.1]), if_neg (by simp [q2])] at hE
    split at hE
    ·exact absurd hE (by assumption)
    ·rename_i h3
     rw [if_neg (by omega)] at hE
     split at hE
     ·cases hE
     ·rename_i h4
      exact ⟨by simpa using h3, by simpa using h4⟩
   have hW3 := hW.trans (hW2.mono hW.size)
   have := rsat (h.hl.below hW3) (hX.below hW2) ⟨rfl, k1, k2⟩ h.hf hk.1 hcu.1 hcu.2 htn (by omega) (n - 1) (by omega) p hp W2 (Go.RowKit.Below.refl _ _)
   have e : getR (rowsP (evP t bs) l) ((n - 1 : Nat) : Int) p = s := by
    rw [← hs2]
    unfold semP
    rw [hn, show (n : Int) - 1 = ((n - 1 : Nat) : Int) by omega]
   rw [e] at this
   rw [show (n : Int) - 1 = ((n - 1 : Nat) : Int) by omega]
   exact this
  ·rcases h1 with h1 | h1 | h1 | h1 | h1
   ·exact absurd q1 h1.1
   ·exact absurd q2 h1.2.1
   ·exact .inl ⟨h1.2.2.1, h1.2.2.2.1, h1.2.2.2.2.1⟩
   ·exact .inr (.inl ⟨h1.2.2.1, h1.2.2.2.1, h1.2.2.2.2.1, h1.2.2.2.2.2.1⟩)
   ·exact .inr (.inr ⟨h1.2.2.1, h1.2.2.2.1, h1.2.2.2.2.1, h1.2.2.2.2.2.1⟩)
end
end Go.Proofs.YtghommaokdhjmaaGreat.Sat
/- The law SatExact: its walk. -/
namespace Go.Proofs.YtghommaokdhjmaaGreat.Sat
open Go.RowKit Go.Lib Go.Sort Go.Proofs.SymP Go.Proofs.YtghommaokdhjmaaGreatW.PrintWords P FactC IRow Frm SpecM SpecB PSat PSpec CmpF BothB SortStr Str
theorem twinT_calls {w : World} {T : Option Addr} {tn tc : Nat} {t : List S58} (ht : TRow w T tn tc t) (hf : ∀ y ∈ t, wideF y) (hl : tn ≤ 100000) : Calls Tryz.prog 13 #[.slice T tn tc] w fun e w' => ∃ A1 c1, e = .returned (.slice A1 tn c1) ∧ TRow w' A1 tn c1 t ∧ Go.RowKit.Below w.heap.size w w' := by
 obtain rfl := ht.len
 obtain ⟨k, hk⟩ := (ev_twinF hf hl).rounds
 refine (qf13.calls k T tc t t w ht.C ht.cap hk).mono ?_
 rintro e w' ⟨v, rfl, hS, hb⟩
 obtain ⟨A1, c1, rfl, q1, q2⟩ := Kd.S_reads hS
 exact ⟨A1, c1, rfl, ⟨rfl, q1, q2⟩, hb⟩
theorem long_mid {l : List S58} {b : Bool} (e : Ev (fun k => qf11.f k l) b) (h1 : 14 < l.length) (h2 : l.length ≤ 200) (hb : b = false) : False := by
 subst hb
 obtain ⟨k, hk⟩ := e.rounds
 unfold qf11.f at hk
 rw [if_pos (by omega), if_pos (by omega)] at hk
 simp at hk
theorem chk17 (l : List S62) : chkN l = 0 ∨ chkN l = 17 := by
 unfold chkN
 split
 ·exact .inr rfl
 ·split
  ·exact .inr rfl
  ·split
   ·exact .inr rfl
   ·exact .inl rfl
theorem chk01 (b : List S66) : chkP b = 0 ∨ chkP b = 1 := by
 unfold chkP
 split
 ·exact .inr rfl
 ·split
  ·exact .inl rfl
  ·exact .inr rfl
section
variable {w : World} {Na A L T B : Option Addr} {nn nc n c lc tn tc bn bc : Nat} {ln l : List S62} {pn an : ByteArray} {ts : List S92} {t : List S58} {b : List S66}
set_option maxHeartbeats 16000000 in
set_option maxRecDepth 1000000 in
theorem exact_law (i : Int) (hn : NRow w Na nn nc ln) (hl : NRow w L n lc l) (hA : Kd.C k92 w A ts.length ts) (hcap : ts.length ≤ c) (ht : TRow w T tn tc t) (hwd : ∀ y ∈ t, y.f1.length < 4398046511104) (hbr : BRow w B bn bc b) :
  Calls Tryz.prog 3 #[.slice Na nn nc, .agg #[.string pn, .string an, .slice A ts.length c, .slice L n lc], .slice T tn tc, .int .i64 i, .slice B bn bc] w fun e w' => e = .returned (.bool true) ∧ Go.RowKit.Below w.heap.size w w' := by
 have hu := Tryz.underlying27
 obtain ⟨g0, e0, k0⟩ := ev_heavyN ln
 obtain ⟨g1, e1, k1⟩ := ev_heavyP pn an ts l
 obtain ⟨g2, e2, k2⟩ := ev_long t
 obtain ⟨g3, e3⟩ : ∃ g3, heavyP b = g3 := ⟨_, rfl⟩
 have G0 : Aside0 (∀ W, Go.RowKit.Below w.heap.size w W → Calls Tryz.prog 9 #[.slice Na nn nc] W fun e w' => e = .returned (.bool g0) ∧ Go.RowKit.Below W.heap.size W w') := ⟨fun W hW => cHeavyN (hn.below hW) e0⟩
 have G1 : Aside0 (∀ W, Go.RowKit.Below w.heap.size w W → Calls Tryz.prog 10 #[.agg #[.string pn, .string an, .slice A ts.length c, .slice L n lc]] W fun e w' => e = .returned (.bool g1) ∧ Go.RowKit.Below W.heap.size W w') := ⟨fun W hW => by
  have h := hl.below hW
  obtain rfl := hl.len
  obtain ⟨k, hk⟩ := e1.rounds
  exact qf10.calls k pn an A c ts L lc l _ W (Kd.C_below hA hW) hcap h.C h.cap hk⟩
 have G2 : Aside0 (∀ W, Go.RowKit.Below w.heap.size w W → Calls Tryz.prog 11 #[.slice T tn tc] W fun e w' => e = .returned (.bool g2) ∧ Go.RowKit.Below W.heap.size W w') := ⟨fun W hW => cLong (ht.below hW) e2⟩
 have G3 : Aside0 (∀ W, Go.RowKit.Below w.heap.size w W → Calls Tryz.prog 12 #[.slice B bn bc] W fun e w' => e = .returned (.bool g3) ∧ Go.RowKit.Below W.heap.size W w') := ⟨fun W hW => cHeavyB (hbr.below hW) e3⟩
 have hb0 : Go.RowKit.Below w.heap.size w (w.alloc (.cells #[.string pn, .string an, .slice A ts.length c, .slice L n lc] 27)) := (Go.RowKit.Below.refl _ w).alloc (Nat.le_refl _) _
 have hll := long_len e2
 have htl := ht.len
 have hll2 : g2 = false → tn ≤ 14 ∨ 200 < tn := fun hg => by
  by_cases h14 : tn ≤ 14
  ·exact .inl h14
  ·refine .inr ?_
   by_cases h200 : tn ≤ 200
   ·exfalso
    exact long_mid e2 (by omega) (by omega) hg
   ·omega
 clear e0 e1 e2
 by_cases hg : g0 = false ∧ g1 = false ∧ g2 = false ∧ g3 = false
 case neg =>
  have hc : g0 = true ∨ (g0 = false ∧ g1 = true) ∨ (g0 = false ∧ g1 = false ∧ g2 = true) ∨ (g0 = false ∧ g1 = false ∧ g2 = false ∧ g3 = true) := by
   cases g0 <;> cases g1 <;> cases g2 <;> cases g3 <;> simp at hg ⊢
  clear k0 k1 k2 e3 hn hl hA ht hbr hg hll hll2 hwd
  rcases hc with rfl | ⟨rfl, rfl⟩ | ⟨rfl, rfl, rfl⟩ | ⟨rfl, rfl, rfl, rfl⟩
  all_goals (
   go_enter Tryz.func3, Tryz.ntmps3
   go_upto_region 1 with fail
   refine wp_world (fun wc => wc.cell? ⟨w.heap.size, 0, none⟩ = some (.string pn) ∧ wc.cell? ⟨w.heap.size, 1, none⟩ = some (.string an) ∧ wc.cell? ⟨w.heap.size, 2, none⟩ = some (.slice A ts.length c) ∧ wc.cell? ⟨w.heap.size, 3, none⟩ = some (.slice L n lc) ∧ Go.RowKit.Below w.heap.size w wc) ⟨by simp, by simp, by simp, by simp, hb0⟩ ?_
   clear hb0
   rintro w0 ⟨z0, z1, z2, z3, hb0⟩
   have HB := Aside0.mk hb0
   clear hb0
   go_wp2_with (first
   | (go_at_call 9; with_reducible refine (G0.out _ HB.out).mono ?_; rintro e wk ⟨rfl, hb⟩; replace HB := Aside0.mk (HB.out.trans (hb.mono HB.out.size)); replace z0 := mvc hb z0; replace z1 := mvc hb z1; replace z2 := mvc hb z2; replace z3 := mvc hb z3; clear hb)
   | (go_at_call 10; with_reducible refine (G1.out _ HB.out).mono ?_; rintro e wk ⟨rfl, hb⟩; replace HB := Aside0.mk (HB.out.trans (hb.mono HB.out.size)); replace z0 := mvc hb z0; replace z1 := mvc hb z1; replace z2 := mvc hb z2; replace z3 := mvc hb z3; clear hb)
   | (go_at_call 11; with_reducible refine (G2.out _ HB.out).mono ?_; rintro e wk ⟨rfl, hb⟩; replace HB := Aside0.mk (HB.out.trans (hb.mono HB.out.size)); replace z0 := mvc hb z0; replace z1 := mvc hb z1; replace z2 := mvc hb z2; replace z3 := mvc hb z3; clear hb)
   | (go_at_call 12; with_reducible refine (G3.out _ HB.out).mono ?_; rintro e wk ⟨rfl, hb⟩; replace HB := Aside0.mk (HB.out.trans (hb.mono HB.out.size)); replace z0 := mvc hb z0; replace z1 := mvc hb z1; replace z2 := mvc hb z2; replace z3 := mvc hb z3; clear hb)
    | fail)
   go_ret
   exact ⟨rfl, HB.out⟩)
 obtain ⟨rfl, rfl, rfl, rfl⟩ := hg
 have HQ := k1 rfl
 have HPt : PatW w A L n c lc l pn an ts := ⟨hl, fit_small HQ.2.2, hA, hcap, ⟨by have := HQ.2.1.1; show an.size ≤ _; omega, fitT_mem.2 fun x hx => by have := HQ.2.1.2.2 x hx; omega, by have := HQ.2.1.2.1; show ts.length ≤ _; omega⟩, by have := HQ.1; omega⟩
 have hfn := fit_small (k0 rfl)
 obtain ⟨hbl, hfb⟩ := heavyB_fit e3
 have htn := hll rfl
 have hft : tn ≤ 200 → ∀ y ∈ t, fitF y := fun h y hy => fitF_small (k2 rfl (by have := hll2 rfl; omega) y hy)
 have hbn : bn ≤ 1000000 := by have := hbr.len; omega
 have htn2 : tn ≤ 1000000 := by omega
 -- what the calls answer
 obtain ⟨z, hz1, hz, hzr⟩ := patternX HPt
 obtain ⟨r, is, er, hr, hW, hWX⟩ := wrongX (i := i) HPt hz hz1 htl hft htn2
 obtain ⟨x0, hx0⟩ : ∃ x0, holdsV ln t i b = x0 := ⟨_, rfl⟩
 obtain ⟨er0, her0⟩ : ∃ er0, holdsE ln t i b = er0 := ⟨_, rfl⟩
 obtain ⟨pl, hpl⟩ : ∃ pl, decide (0 ≤ i ∧ i < (tn : Int)) = pl := ⟨_, rfl⟩
 obtain ⟨tr, htr⟩ : ∃ tr, trP t = tr := ⟨_, rfl⟩
 have CT : Aside0 (∀ W, Go.RowKit.Below w.heap.size w W → Calls Tryz.prog 13 #[.slice T tn tc] W fun e w' => ∃ A1 c1, e = .returned (.slice A1 tn c1) ∧ TRow w' A1 tn c1 t ∧ Go.RowKit.Below W.heap.size W w') := ⟨fun W hW => twinT_calls (ht.below hW) hwd (by omega)⟩
 have CH : Aside0 (∀ W X xc, Go.RowKit.Below w.heap.size w W → TRow W X tn xc t → Calls Tryz.prog 14 #[.slice Na nn nc, .slice X tn xc, .int .i64 i, .slice B bn bc] W fun e w' => e = .returned (.tuple #[.bool x0, .int .i64 er0]) ∧ Go.RowKit.Below W.heap.size W w') := ⟨fun W X xc hW hX => by
  have := @HoldsX W Na X B nn nc tn xc bn bc i t b ln (hn.below hW) hX (hbr.below hW) hfn hfb hft htn2 hbn
  rwa [hx0, her0] at this⟩
 have CW := Aside0.mk hW
 have CK : Aside0 (∀ W X xc, Go.RowKit.Below w.heap.size w W → TRow W X tn xc t → Calls Tryz.prog 16 #[.slice X tn xc, .slice T tn tc] W fun e w' => e = .returned (.bool true) ∧ Go.RowKit.Below W.heap.size W w') := ⟨fun W X xc hW hX => cKFacts hX (ht.below hW) hwd htn2⟩
 have CP := Aside0.mk hzr
 have CR : Aside0 (∀ W, Go.RowKit.Below w.heap.size w W → Calls Tryz.prog 18 #[.slice T tn tc] W fun e w' => e = .returned (.int .i64 tr) ∧ Go.RowKit.Below W.heap.size W w') := ⟨fun W hW => htr ▸ cRTraceX (ht.below hW) hft htn2⟩
 have CF : Aside0 (∀ W, Go.RowKit.Below w.heap.size w W → Calls Tryz.prog 21 #[.slice Na nn nc] W fun e w' => e = .returned (.bool (decide (chkN ln = 0))) ∧ Go.RowKit.Below W.heap.size W w') := ⟨fun W hW => form_calls (hn.below hW) hfn⟩
 have CB : Aside0 (∀ W, Go.RowKit.Below w.heap.size w W → Calls Tryz.prog 22 #[.slice B bn bc] W fun e w' => e = .returned (.bool (chkP b == 0)) ∧ Go.RowKit.Below W.heap.size W w') := ⟨fun W hW => rbinds_calls (hbr.below hW) hfb⟩
 have CD : Aside0 (chkN ln = 0 → ∀ W, Go.RowKit.Below w.heap.size w W → Calls Tryz.prog 23 #[.slice Na nn nc, .slice B bn bc] W fun e w' => e = .returned (.bool (!unbP ln b)) ∧ Go.RowKit.Below W.heap.size W w') := ⟨fun hk W hW => rbindf_calls (hn.below hW) hfn hk (hbr.below hW) hbn⟩
 have hwhy : ((if z = 0 then tr else z) ≠ 0 ∧ er = (if z = 0 then tr else z) ∧ is = false ∧ r = []) ∨ ((if z = 0 then tr else z) = 0 ∧ pl = false ∧ er = 1 ∧ is = false ∧ r = []) ∨ ((if z = 0 then tr else z) = 0 ∧ pl = true ∧ er = 0 ∧ ∀ W X xc, Go.RowKit.Below w.heap.size w W → TRow W X tn xc t → Calls Tryz.prog 19 #[.agg #[.string pn, .string an, .slice A ts.length c, .slice L n lc], .slice X tn xc, .int .i64 i] W fun e w' => (∃ V vc, e = .returned (.tuple #[.slice V r.length vc, .bool is]) ∧ r.length ≤ vc ∧ Kd.C k66 w' V r.length r) ∧ Go.RowKit.Below W.heap.size W w') := by
  rw [htr] at hWX
  rcases hWX with ⟨q1, q2, q3, q4⟩ | ⟨q1, q2, q3, q4, q5⟩ | ⟨q1, q2, q3, q4, q5, q6⟩ | ⟨q1, q2, q3, q4, q5⟩
  ·rw [if_neg q1]; exact .inl ⟨q1, q2, q3, q4⟩
  ·rw [if_pos q1]; exact .inl ⟨q2, q3, q4, q5⟩
  ·rw [if_pos q1]; exact .inr (.inl ⟨q2, by rw [← hpl]; exact decide_eq_false q3, q4, q5, q6⟩)
  ·rw [if_pos q1]; exact .inr (.inr ⟨q2, by rw [← hpl]; exact decide_eq_true q3, q4, q5⟩)
 have hcas : (chkN ln ≠ 0 ∧ er0 = 17) ∨ (chkN ln = 0 ∧ tr ≠ 0 ∧ er0 = tr) ∨ (chkN ln = 0 ∧ tr = 0 ∧ chkP b ≠ 0 ∧ er0 = 1) ∨ (chkN ln = 0 ∧ tr = 0 ∧ chkP b = 0 ∧ pl = false ∧ er0 = 1) ∨ (chkN ln = 0 ∧ tr = 0 ∧ chkP b = 0 ∧ pl = true ∧ unbP ln b = true ∧ er0 = 5) ∨ (chkN ln = 0 ∧ tr = 0 ∧ chkP b = 0 ∧ pl = true ∧ unbP ln b = false ∧ er0 = 0) := by
  rw [← her0, ← htr, ← hpl]
  unfold holdsE
  by_cases q1 : chkN ln = 0
  ·rw [if_neg (fun h => h q1)]
   by_cases q2 : trP t = 0
   ·rw [if_neg (fun h => h q2)]
    by_cases q3 : chkP b = 0
    ·rw [if_neg (fun h => h q3), htl]
     by_cases q4 : 0 ≤ i ∧ i < (tn : Int)
     ·rw [if_neg (by omega), decide_eq_true q4]
      cases hub : unbP ln b with
      | true => exact .inr (.inr (.inr (.inr (.inl ⟨q1, q2, q3, rfl, rfl, rfl⟩))))
      | false => exact .inr (.inr (.inr (.inr (.inr ⟨q1, q2, q3, rfl, rfl, rfl⟩))))
     ·rw [if_pos (by omega), decide_eq_false q4]
      exact .inr (.inr (.inr (.inl ⟨q1, q2, q3, rfl, rfl⟩)))
    ·rw [if_pos q3]
     exact .inr (.inr (.inl ⟨q1, q2, q3, (chk01 b).resolve_left q3⟩))
   ·rw [if_pos q2]
    exact .inr (.inl ⟨q1, q2, rfl⟩)
  ·rw [if_pos q1]
   exact .inl ⟨q1, (chk17 ln).resolve_left q1⟩
 have hxe : er0 ≠ 0 → x0 = false := fun h => by rw [← hx0]; exact holdsV_err (by rw [her0]; exact h)
 have CS : Aside0 (er0 = 0 → ∀ W, Go.RowKit.Below w.heap.size w W → Calls Tryz.prog 25 #[.slice Na nn nc, .int .i64 ((nn : Int) - 1), .slice T tn tc, .int .i64 i, .slice B bn bc] W fun e w' => e = .returned (.bool x0) ∧ Go.RowKit.Below W.heap.size W w') := ⟨fun h0 W hWB => by
  rcases hcas with h | h | h | h | h | ⟨q1, q2, q3, q4, q5, _⟩
  ·omega
  ·omega
  ·omega
  ·omega
  ·omega
  ·have hp : 0 ≤ i ∧ i < (tn : Int) := of_decide_eq_true (by rw [hpl]; exact q4)
   obtain ⟨p, rfl⟩ : ∃ p : Nat, i = (p : Int) := ⟨i.toNat, by omega⟩
   have hn1 : 1 ≤ nn := by obtain ⟨_, hne, _⟩ := chk_inL q1; have := List.length_pos_iff.2 hne; have := hn.len; omega
   have := rsat (hn.below hWB) (ht.below hWB) (hbr.below hWB) hfn q1 q3 q5 htn2 hbn (nn - 1) (by omega) p (by omega) W (Go.RowKit.Below.refl _ _)
   rw [← hx0, holdsV_ok (by rw [her0]; exact h0)]
   unfold semP
   rw [hn.len, show (nn : Int) - 1 = ((nn - 1 : Nat) : Int) by omega]
   exact this⟩
 have HWHY := Aside0.mk hwhy
 have HCAS := Aside0.mk hcas
 have HXE := Aside0.mk hxe
 have hrl := hr
 have hnc := hn.cap
 have kw0 : IntKind.i64.wrap ((nn : Int) - 1) = (nn : Int) - 1 := kwrap (by omega) (by have := hfn.2; have := hn.len; omega)
 have HTR := Aside0.mk ht
 have hPD : pl = false ∨ pl = true := by cases pl <;> simp
 have HPL := Aside0.mk hpl
 clear k0 k1 k2 e3 HQ hll hll2 HPt hfn hbl hfb htn hft hbn hz1 hz hzr hW hWX hx0 her0 htr hwhy hcas hxe hr hn hl hA hcap ht hbr hwd htl hpl
 go_enter Tryz.func3, Tryz.ntmps3
 go_upto_region 1 with fail
 refine wp_world (fun wc => wc.cell? ⟨w.heap.size, 0, none⟩ = some (.string pn) ∧ wc.cell? ⟨w.heap.size, 1, none⟩ = some (.string an) ∧ wc.cell? ⟨w.heap.size, 2, none⟩ = some (.slice A ts.length c) ∧ wc.cell? ⟨w.heap.size, 3, none⟩ = some (.slice L n lc) ∧ Go.RowKit.Below w.heap.size w wc) ⟨by simp, by simp, by simp, by simp, hb0⟩ ?_
 clear hb0
 rintro w0 ⟨z0, z1, z2, z3, hb0⟩
 have HB := Aside0.mk hb0
 clear hb0
 go_upto_region 8 with (first
   | (go_at_call 9; with_reducible refine (G0.out _ HB.out).mono ?_; rintro e wk ⟨rfl, hb⟩; replace HB := Aside0.mk (HB.out.trans (hb.mono HB.out.size)); replace z0 := mvc hb z0; replace z1 := mvc hb z1; replace z2 := mvc hb z2; replace z3 := mvc hb z3; clear hb)
   | (go_at_call 10; with_reducible refine (G1.out _ HB.out).mono ?_; rintro e wk ⟨rfl, hb⟩; replace HB := Aside0.mk (HB.out.trans (hb.mono HB.out.size)); replace z0 := mvc hb z0; replace z1 := mvc hb z1; replace z2 := mvc hb z2; replace z3 := mvc hb z3; clear hb)
   | (go_at_call 11; with_reducible refine (G2.out _ HB.out).mono ?_; rintro e wk ⟨rfl, hb⟩; replace HB := Aside0.mk (HB.out.trans (hb.mono HB.out.size)); replace z0 := mvc hb z0; replace z1 := mvc hb z1; replace z2 := mvc hb z2; replace z3 := mvc hb z3; clear hb)
   | (go_at_call 12; with_reducible refine (G3.out _ HB.out).mono ?_; rintro e wk ⟨rfl, hb⟩; replace HB := Aside0.mk (HB.out.trans (hb.mono HB.out.size)); replace z0 := mvc hb z0; replace z1 := mvc hb z1; replace z2 := mvc hb z2; replace z3 := mvc hb z3; clear hb)
   | (go_at_call 13; with_reducible refine (CT.out _ HB.out).mono ?_; rintro e wk ⟨A1, c1, rfl, hX, hb⟩; replace HB := Aside0.mk (HB.out.trans (hb.mono HB.out.size)); have HX := Aside0.mk hX; clear hX; replace z0 := mvc hb z0; replace z1 := mvc hb z1; replace z2 := mvc hb z2; replace z3 := mvc hb z3; clear hb)
   | (go_at_call 14; with_reducible refine (CH.out _ _ _ HB.out HX.out).mono ?_; rintro e wk ⟨rfl, hb⟩; replace HB := Aside0.mk (HB.out.trans (hb.mono HB.out.size)); replace HX := Aside0.mk (HX.out.below hb); replace z0 := mvc hb z0; replace z1 := mvc hb z1; replace z2 := mvc hb z2; replace z3 := mvc hb z3; clear hb)
   | (go_at_call 15; with_reducible refine (CW.out _ _ _ HB.out HX.out).mono ?_; rintro e wk ⟨⟨V1, vc1, rfl, hv1, hv2⟩, hb⟩; replace HB := Aside0.mk (HB.out.trans (hb.mono HB.out.size)); replace HX := Aside0.mk (HX.out.below hb); have HV := Aside0.mk (And.intro hv1 hv2); clear hv1 hv2; replace z0 := mvc hb z0; replace z1 := mvc hb z1; replace z2 := mvc hb z2; replace z3 := mvc hb z3; clear hb)
   | (go_at_call 16; with_reducible refine (CK.out _ _ _ HB.out HX.out).mono ?_; rintro e wk ⟨rfl, hb⟩; replace HB := Aside0.mk (HB.out.trans (hb.mono HB.out.size)); replace HX := Aside0.mk (HX.out.below hb); replace HV := Aside0.mk (And.intro HV.out.1 (Kd.C_below HV.out.2 hb)); replace z0 := mvc hb z0; replace z1 := mvc hb z1; replace z2 := mvc hb z2; replace z3 := mvc hb z3; clear hb)
   | fail)
 go_cut [17] (fun v17 wc => v17 = .bool pl ∧ Aside0 (wc.cell? ⟨w.heap.size, 0, none⟩ = some (.string pn) ∧ wc.cell? ⟨w.heap.size, 1, none⟩ = some (.string an) ∧ wc.cell? ⟨w.heap.size, 2, none⟩ = some (.slice A ts.length c) ∧ wc.cell? ⟨w.heap.size, 3, none⟩ = some (.slice L n lc) ∧ Kd.C k66 wc V1 r.length r ∧ Go.RowKit.Below w.heap.size w wc))
 case first =>
  have hI : (decide (0 ≤ i) = false ∧ pl = false) ∨ (decide (0 ≤ i) = true ∧ decide (i < (tn : Int)) = false ∧ pl = false) ∨ (decide (0 ≤ i) = true ∧ decide (i < (tn : Int)) = true ∧ pl = true) := by
   rw [← HPL.out]
   by_cases q1 : 0 ≤ i
   ·by_cases q2 : i < (tn : Int)
    ·exact .inr (.inr ⟨decide_eq_true q1, decide_eq_true q2, decide_eq_true ⟨q1, q2⟩⟩)
    ·exact .inr (.inl ⟨decide_eq_true q1, decide_eq_false q2, decide_eq_false fun h => q2 h.2⟩)
   ·exact .inl ⟨decide_eq_false q1, decide_eq_false fun h => q1 h.1⟩
  have HE := Aside0.mk (And.intro z0 (And.intro z1 (And.intro z2 (And.intro z3 (And.intro HV.out.2 HB.out)))))
  clear G0 G1 G2 G3 CT CH CW CK CP CR CF CB CD CS HWHY HCAS HXE HTR HPL hPD HX HV z0 z1 z2 z3 HB
  rcases hI with ⟨d1, rfl⟩ | ⟨d1, d2, rfl⟩ | ⟨d1, d2, rfl⟩
  all_goals (
   go_wp2
   go_meet
   case rel => exact ⟨rfl, HE⟩)
 case rest =>
 obtain ⟨rfl, HE⟩ := hcut
 have HVL := Aside0.mk HV.out.1
 clear z0 z1 z2 z3 HB HX HV G0 G1 G2 G3 CT CH CW CK
 obtain ⟨z0, z1, z2, z3, hV, hbw⟩ := HE.out
 have HB := Aside0.mk hbw
 have HV := Aside0.mk hV
 clear HE hV hbw
 go_upto_if 68 with (first
  | (go_at_call 17; with_reducible refine (CP.out _ HB.out).mono ?_; rintro e wk ⟨rfl, hb⟩; replace HB := Aside0.mk (HB.out.trans (hb.mono HB.out.size)); replace HV := Aside0.mk (Kd.C_below HV.out hb); replace z0 := mvc hb z0; replace z1 := mvc hb z1; replace z2 := mvc hb z2; replace z3 := mvc hb z3; clear hb)
  | fail)
 obtain ⟨why1, hw1⟩ : ∃ why1, (if z = 0 then tr else z) = why1 := ⟨_, rfl⟩
 go_cut [18] (fun v18 wc => v18 = .int .i64 why1 ∧ Aside0 (wc.cell? ⟨w.heap.size, 0, none⟩ = some (.string pn) ∧ wc.cell? ⟨w.heap.size, 1, none⟩ = some (.string an) ∧ wc.cell? ⟨w.heap.size, 2, none⟩ = some (.slice A ts.length c) ∧ wc.cell? ⟨w.heap.size, 3, none⟩ = some (.slice L n lc) ∧ Kd.C k66 wc V1 r.length r ∧ Go.RowKit.Below w.heap.size w wc))
 case first =>
  clear CP CF CB CD CS HWHY HCAS HXE HTR HPL hPD
  by_cases q : z = 0
  ·rw [if_pos q] at hw1
   subst hw1 q
   go_wp2_with (first
    | (go_at_call 18; with_reducible refine (CR.out _ HB.out).mono ?_; rintro e wk ⟨rfl, hb⟩; replace HB := Aside0.mk (HB.out.trans (hb.mono HB.out.size)); replace HV := Aside0.mk (Kd.C_below HV.out hb); replace z0 := mvc hb z0; replace z1 := mvc hb z1; replace z2 := mvc hb z2; replace z3 := mvc hb z3; clear hb)
    | fail)
   go_meet
   case rel => exact ⟨rfl, ⟨z0, z1, z2, z3, HV.out, HB.out⟩⟩
  ·rw [if_neg q] at hw1
   subst hw1
   have d := beq_false_of_ne q
   go_wp2
   go_meet
   case rel => exact ⟨rfl, ⟨z0, z1, z2, z3, HV.out, HB.out⟩⟩
 case rest =>
 obtain ⟨rfl, HE⟩ := hcut
 rw [hw1] at HWHY
 clear z0 z1 z2 z3 HB HV CP hw1
 obtain ⟨z0, z1, z2, z3, hV, hbw⟩ := HE.out
 have HB := Aside0.mk hbw
 have HV := Aside0.mk hV
 clear HE hV hbw
 obtain ⟨why2, hw2⟩ : ∃ why2, (if why1 = 0 ∧ pl = false then 1 else why1) = why2 := ⟨_, rfl⟩
 go_step
 go_step
 go_cut [18] (fun v18 wc => v18 = .int .i64 why2 ∧ Aside0 (wc.cell? ⟨w.heap.size, 0, none⟩ = some (.string pn) ∧ wc.cell? ⟨w.heap.size, 1, none⟩ = some (.string an) ∧ wc.cell? ⟨w.heap.size, 2, none⟩ = some (.slice A ts.length c) ∧ wc.cell? ⟨w.heap.size, 3, none⟩ = some (.slice L n lc) ∧ Kd.C k66 wc V1 r.length r ∧ Go.RowKit.Below w.heap.size w wc))
 case first =>
  clear CR CF CB CD CS HWHY HCAS HXE HTR HPL
  by_cases q : why1 = 0
  ·rcases hPD with rfl | rfl
   ·rw [if_pos ⟨q, rfl⟩] at hw2
    subst hw2 q
    go_wp2
    go_meet
    case rel => exact ⟨rfl, ⟨z0, z1, z2, z3, HV.out, HB.out⟩⟩
   ·rw [if_neg (by simp)] at hw2
    subst hw2 q
    go_wp2
    go_meet
    case rel => exact ⟨rfl, ⟨z0, z1, z2, z3, HV.out, HB.out⟩⟩
  ·rw [if_neg (fun h => q h.1)] at hw2
   subst hw2
   have d := beq_false_of_ne q
   go_wp2
   go_meet
   case rel => exact ⟨rfl, ⟨z0, z1, z2, z3, HV.out, HB.out⟩⟩
 case rest =>
 obtain ⟨rfl, HE⟩ := hcut
 clear z0 z1 z2 z3 HB HV
 obtain ⟨z0, z1, z2, z3, hV, hbw⟩ := HE.out
 have HB := Aside0.mk hbw
 have HV := Aside0.mk hV
 clear HE hV hbw
 go_upto_if 78 with fail
 go_cut [] (fun wc => Aside0 (Go.RowKit.Below w.heap.size w wc))
 case first =>
  have hw3 : (why2 ≠ 0 ∧ er = why2 ∧ is = false ∧ r = []) ∨ (why2 = 0 ∧ er = 0 ∧ ∀ W X xc, Go.RowKit.Below w.heap.size w W → TRow W X tn xc t → Calls Tryz.prog 19 #[.agg #[.string pn, .string an, .slice A ts.length c, .slice L n lc], .slice X tn xc, .int .i64 i] W fun e w' => (∃ V vc, e = .returned (.tuple #[.slice V r.length vc, .bool is]) ∧ r.length ≤ vc ∧ Kd.C k66 w' V r.length r) ∧ Go.RowKit.Below W.heap.size W w') := by
   rcases HWHY.out with ⟨q1, q2, q3, q4⟩ | ⟨q1, q2, q3, q4, q5⟩ | ⟨q1, q2, q3, q4⟩
   ·rw [if_neg (fun h => q1 h.1)] at hw2
    rw [← hw2]; exact .inl ⟨q1, q2, q3, q4⟩
   ·rw [if_pos ⟨q1, q2⟩] at hw2
    rw [← hw2]; exact .inl ⟨by decide, q3, q4, q5⟩
   ·rw [if_neg (fun h => by rw [q2] at h; cases h.2)] at hw2
    rw [← hw2]; exact .inr ⟨q1, q3, q4⟩
  clear hw2 CR CF CB CD CS HWHY HCAS HXE HPL hPD
  rcases hw3 with ⟨q1, rfl, rfl, rfl⟩ | ⟨rfl, rfl, hCW⟩
  ·have d := bne_iff_ne.2 q1
   have d2 : (er != er) = false := bne_self_eq_false _
   clear HVL HV HTR
   go_wp2
   go_meet
   case rel => exact HB
  ·have CW2 := Aside0.mk hCW
   have dis : (is != is) = false := bne_self_eq_false _
   clear hCW
   go_wp2_with (first
    | (go_at_call 19; with_reducible refine (CW2.out _ _ _ HB.out (HTR.out.below HB.out)).mono ?_; rintro e wk ⟨⟨V2, vc2, rfl, hv1, hv2⟩, hb⟩; replace HB := Aside0.mk (HB.out.trans (hb.mono HB.out.size)); replace HV := Aside0.mk (Kd.C_below HV.out hb); have HV2 := Aside0.mk (And.intro hv1 hv2); clear hv1 hv2; replace z0 := mvc hb z0; replace z1 := mvc hb z1; replace z2 := mvc hb z2; replace z3 := mvc hb z3; clear hb)
    | (go_at_call 20; with_reducible refine (sameB HVL.out HV.out HV2.out.1 HV2.out.2 hrl).mono ?_; rintro e wk ⟨rfl, hb⟩; replace HB := Aside0.mk (HB.out.trans (hb.mono HB.out.size)); clear hb)
    | fail)
   go_meet
   case rel => exact HB
 case rest =>
 have HB2 := Aside0.mk hcut.out
 clear hcut z0 z1 z2 z3 HB HV HVL HWHY hw2
 have HB := HB2
 clear HB2
 go_upto_block 0 with fail
 go_cut [18] (fun v18 wc => v18 = .int .i64 er0 ∧ Aside0 (Go.RowKit.Below w.heap.size w wc))
 case first =>
  clear HXE CS HPL hPD
  have hC := HCAS.out
  clear HCAS
  rcases hC with ⟨q1, rfl⟩ | ⟨q1, q2, rfl⟩ | ⟨q1, rfl, q3, rfl⟩ | ⟨q1, rfl, q3, rfl, rfl⟩ | ⟨q1, rfl, q3, rfl, q5, rfl⟩ | ⟨q1, rfl, q3, rfl, q5, rfl⟩
  all_goals (
   (first | rw [decide_eq_false q1] at CF | rw [decide_eq_true q1] at CF)
   (try have d2 := bne_iff_ne.2 q2)
   (try first | rw [q3] at CB | rw [beq_false_of_ne q3] at CB)
   (try have CD := Aside0.mk (CD.out q1))
   (try rw [q5] at CD)
   go_wp2_with (first
    | (go_at_call 21; with_reducible refine (CF.out _ HB.out).mono ?_; rintro e wk ⟨rfl, hb⟩; replace HB := Aside0.mk (HB.out.trans (hb.mono HB.out.size)); clear hb)
    | (go_at_call 18; with_reducible refine (CR.out _ HB.out).mono ?_; rintro e wk ⟨rfl, hb⟩; replace HB := Aside0.mk (HB.out.trans (hb.mono HB.out.size)); clear hb)
    | (go_at_call 22; with_reducible refine (CB.out _ HB.out).mono ?_; rintro e wk ⟨rfl, hb⟩; replace HB := Aside0.mk (HB.out.trans (hb.mono HB.out.size)); clear hb)
    | (go_at_call 23; with_reducible refine (CD.out _ HB.out).mono ?_; rintro e wk ⟨rfl, hb⟩; replace HB := Aside0.mk (HB.out.trans (hb.mono HB.out.size)); clear hb)
    | fail)
   go_meet
   case rel => exact ⟨rfl, HB⟩)
 case rest =>
 obtain ⟨rfl, HB3⟩ := hcut
 clear HB CF CR CB CD HCAS
 have HB := HB3
 clear HB3
 by_cases q : er0 = 0
 ·have CS2 := Aside0.mk (CS.out q)
  subst q
  have dx : (x0 == x0) = true := by cases x0 <;> rfl
  clear CS HXE
  go_wp2_with (first
   | (go_at_call 25; with_reducible refine (CS2.out _ HB.out).mono ?_; rintro e wk ⟨rfl, hb⟩; replace HB := Aside0.mk (HB.out.trans (hb.mono HB.out.size)); clear hb)
   | (go_at_call 24; with_reducible refine (wakes_calls _).mono ?_; rintro e wk ⟨rfl, hb⟩; replace HB := Aside0.mk (HB.out.trans (hb.mono HB.out.size)); clear hb)
   | fail)
  go_ret
  exact ⟨rfl, HB.out⟩
 ·obtain rfl := HXE.out q
  have d1 := bne_iff_ne.2 q
  have d2 : (er0 == er0) = true := beq_self_eq_true _
  clear CS HXE
  go_wp2_with (first
   | (go_at_call 24; with_reducible refine (wakes_calls _).mono ?_; rintro e wk ⟨rfl, hb⟩; replace HB := Aside0.mk (HB.out.trans (hb.mono HB.out.size)); clear hb)
   | fail)
  go_ret
  exact ⟨rfl, HB.out⟩
end
end Go.Proofs.YtghommaokdhjmaaGreat.Sat
/- What an argument's reading tells of its cells: whole numbers, texts, Values, Binds, and rows of them. -/
namespace Go.Proofs.YtghommaokdhjmaaGreat.Open
open Go.RowKit Go.Proofs.YtghommaokdhjmaaGreatW.PrintWords P
variable {H : Type} {enc : TypeId × Value → H} {P : Program} {w : World} {base : Nat} {sp : Nat → Bool} {held : Bool}
theorem trod_int {t : TypeId} {k : IntKind} (ht : P.underlying t = some (.int k)) {fuel : Nat} {cs : List Value} {x : DataW H × List MemPlace} (h : DataW.trod enc P w base sp held fuel t cs = some x) : ∃ n, cs = [.int k n] ∧ (Lit.int k n).wf = true := by
 cases fuel with
 | zero => simp [DataW.trod] at h
 | succ n =>
  unfold DataW.trod at h
  rw [ht] at h
  split at h <;> simp_all
theorem trod_string {t : TypeId} (ht : P.underlying t = some .string) {fuel : Nat} {cs : List Value} {x : DataW H × List MemPlace} (h : DataW.trod enc P w base sp held fuel t cs = some x) : ∃ s, cs = [.string s] ∧ s.size ≤ maxLen := by
 cases fuel with
 | zero => simp [DataW.trod] at h
 | succ n =>
  unfold DataW.trod at h
  rw [ht] at h
  split at h <;> simp_all

def Tells (H : Type) (enc : TypeId × Value → H) (P : Program) (base : Nat) (sp : Nat → Bool) (held : Bool) {α : Type} (d : Kd α) (e : TypeId) : Prop :=
 ∀ (w : World) (fuel : Nat) (cs : List Value) (x : DataW H × List MemPlace), DataW.trod enc P w base sp held fuel e cs = some x → ∃ p, d.K w p cs
theorem list_of {α : Type} {Q : Nat → α → Prop} : ∀ (n : Nat), (∀ i, i < n → ∃ p, Q i p) → ∃ l : List α, l.length = n ∧ ∀ j p, l[j]? = some p → Q j p
 | 0, _ => ⟨[], rfl, fun j p h => by simp at h⟩
 | n + 1, h => by
  obtain ⟨l, hl, hq⟩ := list_of n (fun i hi => h i (by omega))
  obtain ⟨p, hp⟩ := h n (by omega)
  refine ⟨l ++ [p], by simp [hl], fun j q hj => ?_⟩
  rcases Nat.lt_trichotomy j n with h1 | h1 | h1
  ·rw [List.getElem?_append_left (by omega)] at hj; exact hq j q hj
  ·subst h1
   rw [List.getElem?_append_right (by omega), hl, Nat.sub_self] at hj
   obtain rfl : p = q := by simpa using hj
   exact hp
  ·rw [List.getElem?_eq_none (by simp; omega)] at hj; cases hj
theorem add_add' (a : Addr) (i j : Nat) : (a.add i).add j = a.add (i + j) := by
 unfold Addr.add
 by_cases hi : i = 0 <;> by_cases hj : j = 0 <;> simp [hi, hj, Nat.add_assoc]
theorem tells_row {α : Type} {d : Kd α} {t e : TypeId} (ht : P.underlying t = some (.slice e)) (hs : P.cellsOf e = d.sz) (hd : Tells H enc P base sp held d e) {fuel : Nat} {cs : List Value} {x : DataW H × List MemPlace}
  (h : DataW.trod enc P w base sp held fuel t cs = some x) : ∃ (A : Option Addr) (c : Nat) (l : List α), cs = [.slice A l.length c] ∧ l.length ≤ c ∧ Kd.C d w A l.length l := by
 rcases DataW.trod_slice ht h with ⟨rfl, _⟩ | ⟨a, len, cap, elems, rest, n, _, rfl, _, _, hl, hcm, hlen, hel, _⟩
 ·exact ⟨none, 0, [], rfl, Nat.le_refl _, rfl, by simp, fun h => absurd h (Nat.lt_irrefl _)⟩
 ·have hex : ∀ i, i < len → ∃ (p : α), ∃ c : List Value, c.length = d.sz ∧ d.K w p c ∧ ∀ j u, c[j]? = some u → w.cell? (a.add (i * d.sz + j)) = some u := by
   intro i hi
   have h1 := hel i hi
   rw [List.getElem?_eq_getElem (by omega), Option.bind_eq_some_iff] at h1
   obtain ⟨c, hc, htr⟩ := h1
   obtain ⟨p, hp⟩ := hd w _ _ _ htr
   obtain ⟨_, hcl, hcell⟩ := World.cells?_some hc
   refine ⟨p, c, by rw [hcl, hs], hp, fun j u hj => ?_⟩
   have hj' : j < P.cellsOf e := by rw [← hcl]; exact (List.getElem?_eq_some_iff.1 hj).1
   rw [← hs, ← add_add', hcell j hj', hj]
  obtain ⟨l, hll, hq⟩ := list_of len hex
  refine ⟨some a, cap, l, by rw [hll], by omega, rfl, by unfold maxLen at hcm; omega, fun _ => ⟨a, rfl, hq⟩⟩

set_option maxRecDepth 100000 in
theorem tells64 : Tells H enc Tryz.prog base sp held k64 64 := by
 intro w fuel cs x h
 obtain ⟨xs, n, _, rfl, hl, hlen, hf⟩ := DataW.trod_struct Tryz.underlying64 h
 have hc : Tryz.prog.cellsOf 64 = 3 := by kernel_rfl
 have h9 : Tryz.prog.cellsOf 9 = 1 := by kernel_rfl
 have h3 : Tryz.prog.cellsOf 3 = 1 := by kernel_rfl
 rw [hc] at hl
 obtain ⟨a, b, c, rfl⟩ : ∃ a b c, cs = [a, b, c] := by
  match cs, hl with
  | [a, b, c], _ => exact ⟨a, b, c, rfl⟩
 obtain ⟨y0, y1, y2, rfl⟩ : ∃ y0 y1 y2, xs = [y0, y1, y2] := by
  match xs, hlen with
  | [y0, y1, y2], _ => exact ⟨y0, y1, y2, rfl⟩
 have g0 : DataW.trod enc Tryz.prog w base sp held n 3 (List.take (Tryz.prog.cellsOf 3) (List.drop 0 [a, b, c])) = some y0 := hf 0 _ rfl
 have g1 : DataW.trod enc Tryz.prog w base sp held n 3 (List.take (Tryz.prog.cellsOf 3) (List.drop 1 [a, b, c])) = some y1 := hf 1 _ rfl
 have g2 : DataW.trod enc Tryz.prog w base sp held n 9 (List.take (Tryz.prog.cellsOf 9) (List.drop 2 [a, b, c])) = some y2 := hf 2 _ rfl
 rw [h3] at g0 g1
 rw [h9] at g2
 obtain ⟨n0, e0, _⟩ := trod_int Tryz.underlying3 g0
 obtain ⟨n1, e1, _⟩ := trod_int Tryz.underlying3 g1
 obtain ⟨s2, e2, _⟩ := trod_string Tryz.underlying9 g2
 obtain rfl : a = _ := by simpa using e0
 obtain rfl : b = _ := by simpa using e1
 obtain rfl : c = _ := by simpa using e2
 exact ⟨⟨n0, n1, s2⟩, k64_mk w _⟩
set_option maxRecDepth 100000 in
theorem tells66 : Tells H enc Tryz.prog base sp held k66 66 := by
 intro w fuel cs x h
 obtain ⟨xs, n, _, rfl, hl, hlen, hf⟩ := DataW.trod_struct Tryz.underlying66 h
 have hc : Tryz.prog.cellsOf 66 = 4 := by kernel_rfl
 have h9 : Tryz.prog.cellsOf 9 = 1 := by kernel_rfl
 have h3 : Tryz.prog.cellsOf 64 = 3 := by kernel_rfl
 rw [hc] at hl
 obtain ⟨a, b, c, e, rfl⟩ : ∃ a b c e, cs = [a, b, c, e] := by
  match cs, hl with
  | [a, b, c, e], _ => exact ⟨a, b, c, e, rfl⟩
 obtain ⟨y0, y1, rfl⟩ : ∃ y0 y1, xs = [y0, y1] := by
  match xs, hlen with
  | [y0, y1], _ => exact ⟨y0, y1, rfl⟩
 have g0 : DataW.trod enc Tryz.prog w base sp held n 9 (List.take (Tryz.prog.cellsOf 9) (List.drop 0 [a, b, c, e])) = some y0 := hf 0 _ rfl
 have g1 : DataW.trod enc Tryz.prog w base sp held n 64 (List.take (Tryz.prog.cellsOf 64) (List.drop 1 [a, b, c, e])) = some y1 := hf 1 _ rfl
 rw [h9] at g0
 rw [h3] at g1
 obtain ⟨s0, e0, _⟩ := trod_string Tryz.underlying9 g0
 obtain ⟨v, hv⟩ := tells64 w _ _ _ g1
 obtain rfl : a = _ := by simpa using e0
 have hv' := k64_open hv
 simp only [List.drop_succ_cons, List.drop_zero, List.take_succ_cons, List.take_zero, List.cons.injEq, and_true] at hv'
 obtain ⟨rfl, rfl, rfl⟩ := hv'
 exact ⟨⟨s0, v⟩, k66_mk w _⟩
end Go.Proofs.YtghommaokdhjmaaGreat.Open
/- What an argument's reading tells of its cells: Terms, Facts, Atoms; no condition. -/
namespace Go.Proofs.YtghommaokdhjmaaGreat.Open
open Go.RowKit Go.Proofs.YtghommaokdhjmaaGreatW.PrintWords P
variable {H : Type} {enc : TypeId × Value → H} {P : Program} {w : World} {base : Nat} {sp : Nat → Bool} {held : Bool}
set_option maxRecDepth 100000 in
theorem tells92 : Tells H enc Tryz.prog base sp held k92 92 := by
 intro w fuel cs x h
 obtain ⟨xs, n, _, rfl, hl, hlen, hf⟩ := DataW.trod_struct Tryz.underlying92 h
 have hc : Tryz.prog.cellsOf 92 = 4 := by kernel_rfl
 have h9 : Tryz.prog.cellsOf 9 = 1 := by kernel_rfl
 have h3 : Tryz.prog.cellsOf 64 = 3 := by kernel_rfl
 rw [hc] at hl
 obtain ⟨a, b, c, e, rfl⟩ : ∃ a b c e, cs = [a, b, c, e] := by
  match cs, hl with
  | [a, b, c, e], _ => exact ⟨a, b, c, e, rfl⟩
 obtain ⟨y0, y1, rfl⟩ : ∃ y0 y1, xs = [y0, y1] := by
  match xs, hlen with
  | [y0, y1], _ => exact ⟨y0, y1, rfl⟩
 have g0 : DataW.trod enc Tryz.prog w base sp held n 9 (List.take (Tryz.prog.cellsOf 9) (List.drop 0 [a, b, c, e])) = some y0 := hf 0 _ rfl
 have g1 : DataW.trod enc Tryz.prog w base sp held n 64 (List.take (Tryz.prog.cellsOf 64) (List.drop 1 [a, b, c, e])) = some y1 := hf 1 _ rfl
 rw [h9] at g0
 rw [h3] at g1
 obtain ⟨s0, e0, _⟩ := trod_string Tryz.underlying9 g0
 obtain ⟨v, hv⟩ := tells64 w _ _ _ g1
 obtain rfl : a = _ := by simpa using e0
 have hv' := k64_open hv
 simp only [List.drop_succ_cons, List.drop_zero, List.take_succ_cons, List.take_zero, List.cons.injEq, and_true] at hv'
 obtain ⟨rfl, rfl, rfl⟩ := hv'
 exact ⟨⟨s0, v⟩, k92_mk w _⟩
set_option maxRecDepth 100000 in
theorem tells25 : Tells H enc Tryz.prog base sp held k25 25 := by
 intro w fuel cs x h
 obtain ⟨xs, n, _, rfl, hl, hlen, hf⟩ := DataW.trod_struct Tryz.underlying25 h
 have hc : Tryz.prog.cellsOf 25 = 2 := by kernel_rfl
 have h9 : Tryz.prog.cellsOf 9 = 1 := by kernel_rfl
 have h3 : Tryz.prog.cellsOf 23 = 1 := by kernel_rfl
 rw [hc] at hl
 obtain ⟨a, b, rfl⟩ : ∃ a b, cs = [a, b] := by
  match cs, hl with
  | [a, b], _ => exact ⟨a, b, rfl⟩
 obtain ⟨y0, y1, rfl⟩ : ∃ y0 y1, xs = [y0, y1] := by
  match xs, hlen with
  | [y0, y1], _ => exact ⟨y0, y1, rfl⟩
 have g0 : DataW.trod enc Tryz.prog w base sp held n 9 (List.take (Tryz.prog.cellsOf 9) (List.drop 0 [a, b])) = some y0 := hf 0 _ rfl
 have g1 : DataW.trod enc Tryz.prog w base sp held n 23 (List.take (Tryz.prog.cellsOf 23) (List.drop 1 [a, b])) = some y1 := hf 1 _ rfl
 rw [h9] at g0
 rw [h3] at g1
 obtain ⟨s0, e0, _⟩ := trod_string Tryz.underlying9 g0
 obtain ⟨A, c, l, hcs, hlc, hC⟩ := tells_row Tryz.underlying23 (by kernel_rfl) tells92 g1
 obtain rfl : a = _ := by simpa using e0
 obtain rfl : b = _ := by simpa using hcs
 exact ⟨⟨s0, l⟩, k25_mk w ⟨s0, l⟩ hlc hC⟩
end Go.Proofs.YtghommaokdhjmaaGreat.Open
/- What an argument's reading tells of its cells: formulas' nodes; no condition. -/
namespace Go.Proofs.YtghommaokdhjmaaGreat.Open
open Go.RowKit Go.Proofs.YtghommaokdhjmaaGreatW.PrintWords P
variable {H : Type} {enc : TypeId × Value → H} {P : Program} {w : World} {base : Nat} {sp : Nat → Bool} {held : Bool}
set_option maxRecDepth 100000 in
theorem tells62 : Tells H enc Tryz.prog base sp held k62 62 := by
 intro w fuel cs x h
 obtain ⟨xs, n, _, rfl, hl, hlen, hf⟩ := DataW.trod_struct Tryz.underlying62 h
 have hc : Tryz.prog.cellsOf 62 = 5 := by kernel_rfl
 have h9 : Tryz.prog.cellsOf 25 = 2 := by kernel_rfl
 have h3 : Tryz.prog.cellsOf 3 = 1 := by kernel_rfl
 rw [hc] at hl
 obtain ⟨a, b, c, e, f, rfl⟩ : ∃ a b c e f, cs = [a, b, c, e, f] := by
  match cs, hl with
  | [a, b, c, e, f], _ => exact ⟨a, b, c, e, f, rfl⟩
 obtain ⟨y0, y1, y2, y3, rfl⟩ : ∃ y0 y1 y2 y3, xs = [y0, y1, y2, y3] := by
  match xs, hlen with
  | [y0, y1, y2, y3], _ => exact ⟨y0, y1, y2, y3, rfl⟩
 have g0 : DataW.trod enc Tryz.prog w base sp held n 3 (List.take (Tryz.prog.cellsOf 3) (List.drop 0 [a, b, c, e, f])) = some y0 := hf 0 _ rfl
 have g1 : DataW.trod enc Tryz.prog w base sp held n 25 (List.take (Tryz.prog.cellsOf 25) (List.drop 1 [a, b, c, e, f])) = some y1 := hf 1 _ rfl
 have g2 : DataW.trod enc Tryz.prog w base sp held n 3 (List.take (Tryz.prog.cellsOf 3) (List.drop 3 [a, b, c, e, f])) = some y2 := hf 2 _ rfl
 have g3 : DataW.trod enc Tryz.prog w base sp held n 3 (List.take (Tryz.prog.cellsOf 3) (List.drop 4 [a, b, c, e, f])) = some y3 := hf 3 _ rfl
 rw [h3] at g0 g2 g3
 rw [h9] at g1
 obtain ⟨n0, e0, _⟩ := trod_int Tryz.underlying3 g0
 obtain ⟨v, hv⟩ := tells25 w _ _ _ g1
 obtain ⟨n2, e2, _⟩ := trod_int Tryz.underlying3 g2
 obtain ⟨n3, e3, _⟩ := trod_int Tryz.underlying3 g3
 obtain rfl : a = _ := by simpa using e0
 obtain ⟨A, q, hv', hl2, hC⟩ := k25_open hv
 simp only [List.drop_succ_cons, List.drop_zero, List.take_succ_cons, List.take_zero, List.cons.injEq, and_true] at hv'
 obtain ⟨rfl, rfl⟩ := hv'
 obtain rfl : e = _ := by simpa using e2
 obtain rfl : f = _ := by simpa using e3
 exact ⟨⟨n0, v, n2, n3⟩, k62_mk w ⟨n0, v, n2, n3⟩ hl2 hC⟩
end Go.Proofs.YtghommaokdhjmaaGreat.Open
/- What an argument's reading tells of its cells: a pattern; no condition. -/
namespace Go.Proofs.YtghommaokdhjmaaGreat.Open
open Go.RowKit Go.Proofs.YtghommaokdhjmaaGreatW.PrintWords P
variable {H : Type} {enc : TypeId × Value → H} {P : Program} {w : World} {base : Nat} {sp : Nat → Bool} {held : Bool}
set_option maxRecDepth 100000 in
theorem pattern_open {fuel : Nat} {cs : List Value} {x : DataW H × List MemPlace} (h : DataW.trod enc Tryz.prog w base sp held fuel 27 cs = some x) : ∃ (pn an : ByteArray) (A : Option Addr) (c : Nat) (ts : List S92) (L : Option Addr) (lc : Nat) (l : List S62), cs = [.string pn, .string an, .slice A ts.length c, .slice L l.length lc] ∧ ts.length ≤ c ∧ Kd.C k92 w A ts.length ts ∧ l.length ≤ lc ∧ Kd.C k62 w L l.length l := by
 obtain ⟨xs, n, _, rfl, hl, hlen, hf⟩ := DataW.trod_struct Tryz.underlying27 h
 have hc : Tryz.prog.cellsOf 27 = 4 := by kernel_rfl
 have h9 : Tryz.prog.cellsOf 9 = 1 := by kernel_rfl
 have h2 : Tryz.prog.cellsOf 25 = 2 := by kernel_rfl
 have h3 : Tryz.prog.cellsOf 22 = 1 := by kernel_rfl
 rw [hc] at hl
 obtain ⟨a, b, d, e, rfl⟩ : ∃ a b d e, cs = [a, b, d, e] := by
  match cs, hl with
  | [a, b, d, e], _ => exact ⟨a, b, d, e, rfl⟩
 obtain ⟨y0, y1, y2, rfl⟩ : ∃ y0 y1 y2, xs = [y0, y1, y2] := by
  match xs, hlen with
  | [y0, y1, y2], _ => exact ⟨y0, y1, y2, rfl⟩
 have g0 : DataW.trod enc Tryz.prog w base sp held n 9 (List.take (Tryz.prog.cellsOf 9) (List.drop 0 [a, b, d, e])) = some y0 := hf 0 _ rfl
 have g1 : DataW.trod enc Tryz.prog w base sp held n 25 (List.take (Tryz.prog.cellsOf 25) (List.drop 1 [a, b, d, e])) = some y1 := hf 1 _ rfl
 have g2 : DataW.trod enc Tryz.prog w base sp held n 22 (List.take (Tryz.prog.cellsOf 22) (List.drop 3 [a, b, d, e])) = some y2 := hf 2 _ rfl
 rw [h9] at g0
 rw [h2] at g1
 rw [h3] at g2
 obtain ⟨s0, e0, _⟩ := trod_string Tryz.underlying9 g0
 obtain ⟨v, hv⟩ := tells25 w _ _ _ g1
 obtain ⟨L, lc, l, hcs, hlc, hC⟩ := tells_row Tryz.underlying22 (by kernel_rfl) tells62 g2
 obtain ⟨A, q, hv', hl2, hC2⟩ := k25_open hv
 simp only [List.drop_succ_cons, List.drop_zero, List.take_succ_cons, List.take_zero, List.cons.injEq, and_true] at hv'
 obtain ⟨rfl, rfl⟩ := hv'
 obtain rfl : a = _ := by simpa using e0
 obtain rfl : e = _ := by simpa using hcs
 exact ⟨s0, v.f0, A, q, v.f1, L, lc, l, rfl, hl2, hC2, hlc, hC⟩
end Go.Proofs.YtghommaokdhjmaaGreat.Open
/- What an argument's reading tells of its cells: facts; each fact's values fit into an address space, where the reading does; no condition. -/
namespace Go.Proofs.YtghommaokdhjmaaGreat.Open
open Go.RowKit Go.Proofs.YtghommaokdhjmaaGreatW.PrintWords P
variable {H : Type} {enc : TypeId × Value → H} {P : Program} {w : World} {base : Nat} {sp : Nat → Bool} {held : Bool}
theorem weights_all {e : TypeId} : ∀ {ds : List (DataW H)} {j : Nat} {d : DataW H}, ds[j]? = some d → ∀ n ∈ d.weights P e, n ∈ DataW.weightsAll P e ds
 | d0 :: ds, 0, d, hd, n, hn => by
  simp only [List.getElem?_cons_zero, Option.some.injEq] at hd
  subst hd
  simp only [DataW.weightsAll, List.mem_append]
  exact .inl hn
 | d0 :: ds, j + 1, d, hd, n, hn => by
  simp only [List.getElem?_cons_succ] at hd
  simp only [DataW.weightsAll, List.mem_append]
  exact .inr (weights_all hd n hn)
 | [], _, _, hd, _, _ => by simp at hd
set_option maxRecDepth 100000 in
theorem tells58Z {fuel : Nat} {cs : List Value} {x : DataW H × List MemPlace} (h : DataW.trod enc Tryz.prog w base sp held fuel 58 cs = some x) (hz : ∀ n ∈ x.1.weights Tryz.prog 58, n ≤ reachBytes) : ∃ p, k58.K w p cs ∧ p.f1.length < 4398046511104 := by
 obtain ⟨xs, n, _, rfl, hl, hlen, hf⟩ := DataW.trod_struct Tryz.underlying58 h
 have hc : Tryz.prog.cellsOf 58 = 2 := by kernel_rfl
 have h9 : Tryz.prog.cellsOf 9 = 1 := by kernel_rfl
 have h3 : Tryz.prog.cellsOf 56 = 1 := by kernel_rfl
 rw [hc] at hl
 obtain ⟨a, b, rfl⟩ : ∃ a b, cs = [a, b] := by
  match cs, hl with
  | [a, b], _ => exact ⟨a, b, rfl⟩
 obtain ⟨y0, y1, rfl⟩ : ∃ y0 y1, xs = [y0, y1] := by
  match xs, hlen with
  | [y0, y1], _ => exact ⟨y0, y1, rfl⟩
 have g0 : DataW.trod enc Tryz.prog w base sp held n 9 (List.take (Tryz.prog.cellsOf 9) (List.drop 0 [a, b])) = some y0 := hf 0 _ rfl
 have g1 : DataW.trod enc Tryz.prog w base sp held n 56 (List.take (Tryz.prog.cellsOf 56) (List.drop 1 [a, b])) = some y1 := hf 1 _ rfl
 rw [h9] at g0
 rw [h3] at g1
 obtain ⟨s0, e0, _⟩ := trod_string Tryz.underlying9 g0
 obtain ⟨A, c, l, hcs, hlc, hC⟩ := tells_row Tryz.underlying56 (by kernel_rfl) tells64 g1
 have hl2 : l.length < 4398046511104 := by
  rcases DataW.trod_slice Tryz.underlying56 g1 with ⟨e, _⟩ | ⟨a2, len, cap, elems, rest, n2, _, e, hx, _, _, _, hl2, _⟩
  ·rw [hcs] at e
   simp only [List.cons.injEq, Value.slice.injEq, and_true] at e
   omega
  ·rw [hcs] at e
   simp only [List.cons.injEq, Value.slice.injEq, and_true] at e
   have hw := hz (((elems.map (·.1)).length + (rest.map (·.1)).length) * Tryz.prog.bytesOf 64) (by
    have h1 : ((elems.map (·.1)).length + (rest.map (·.1)).length) * Tryz.prog.bytesOf 64 ∈ y1.1.weights Tryz.prog 56 := by
     rw [hx]
     simp only [DataW.weights, Tryz.underlying56]
     exact List.mem_cons_self
    simp only [DataW.weights, Tryz.underlying58]
    exact DataW.weights_mem_each (j := 1) rfl rfl _ h1)
   have hb : Tryz.prog.bytesOf 64 = 32 := by kernel_rfl
   rw [hb, List.length_map, List.length_map] at hw
   have := reachBytes_lt
   omega
 obtain rfl : a = _ := by simpa using e0
 obtain rfl : b = _ := by simpa using hcs
 exact ⟨⟨s0, l⟩, k58_mk w ⟨s0, l⟩ hlc hC, hl2⟩
theorem facts_row {fuel : Nat} {cs : List Value} {x : DataW H × List MemPlace} (h : DataW.trod enc Tryz.prog w base sp held fuel 28 cs = some x) (hz : ∀ n ∈ x.1.weights Tryz.prog 28, n ≤ reachBytes) : ∃ (A : Option Addr) (c : Nat) (l : List S58), cs = [.slice A l.length c] ∧ l.length ≤ c ∧ Kd.C k58 w A l.length l ∧ ∀ y ∈ l, y.f1.length < 4398046511104 := by
 rcases DataW.trod_slice Tryz.underlying28 h with ⟨rfl, _⟩ | ⟨a, len, cap, elems, rest, n, _, rfl, hx, _, hl, hcm, hlen, hel, _⟩
 ·exact ⟨none, 0, [], rfl, Nat.le_refl _, ⟨rfl, by simp, fun h => absurd h (Nat.lt_irrefl _)⟩, fun y hy => by simp at hy⟩
 ·have hs : Tryz.prog.cellsOf 58 = 2 := by kernel_rfl
  have hex : ∀ i, i < len → ∃ (p : S58), ∃ c : List Value, c.length = 2 ∧ (k58.K w p c ∧ p.f1.length < 4398046511104) ∧ ∀ j u, c[j]? = some u → w.cell? (a.add (i * 2 + j)) = some u := by
   intro i hi
   have h1 := hel i hi
   rw [List.getElem?_eq_getElem (by omega), Option.bind_eq_some_iff] at h1
   obtain ⟨c, hc, htr⟩ := h1
   obtain ⟨p, hp⟩ := tells58Z htr (fun n hn => hz n (by
    have h2 : n ∈ DataW.weightsAll Tryz.prog 58 (elems.map (·.1)) := weights_all (j := i) (d := elems[i].1) (by rw [List.getElem?_map, List.getElem?_eq_getElem (by omega)]; rfl) n hn
    rw [hx]
    simp only [DataW.weights, Tryz.underlying28]
    exact List.mem_cons_of_mem _ (List.mem_append_left _ h2)))
   obtain ⟨_, hcl, hcell⟩ := World.cells?_some hc
   refine ⟨p, c, by rw [hcl, hs], hp, fun j u hj => ?_⟩
   have hj' : j < Tryz.prog.cellsOf 58 := by rw [← hcl]; exact (List.getElem?_eq_some_iff.1 hj).1
   have := hcell j hj'
   rw [hs] at this
   rw [← add_add', this, hj]
  obtain ⟨l, hll, hq⟩ := list_of len hex
  refine ⟨some a, cap, l, by rw [hll], by omega, ⟨rfl, by unfold maxLen at hcm; omega, fun _ => ⟨a, rfl, fun j p hj => ?_⟩⟩, fun y hy => ?_⟩
  ·obtain ⟨cc, h1, h2, h3⟩ := hq j p hj
   exact ⟨cc, h1, h2.1, h3⟩
  ·obtain ⟨j, hj, rfl⟩ := List.getElem_of_mem hy
   obtain ⟨cc, h1, h2, h3⟩ := hq j _ (List.getElem?_eq_getElem hj)
   exact h2.2
end Go.Proofs.YtghommaokdhjmaaGreat.Open
/- The row of SatExact: whatever the input, true; out of the printed walk and the plain law. -/
namespace Go.Proofs.YtghommaokdhjmaaGreat.satExact
open Go.ChangeShapes Go.WideShapes Go.ChangeAt Go.RowKit Go.Proofs.YtghommaokdhjmaaGreatW.PrintWords P Go.Proofs.YtghommaokdhjmaaGreat.Open
open Go.ChangeMaps (open_string shut_string)
theorem own : ownKnob Tryz.prog.godebug = none := by kernel_rfl
theorem laidOut : laidOutB Tryz.prog = true := by kernel_rfl
set_option maxRecDepth 100000 in
theorem lifted (os : Os) (started : os.Started) (H : Type) (enc : TypeId × Value → H) :
  ReturnsInHanded {} Tryz.checked os 3 .any (Rows.satExactSpec.pre6 enc Tryz.prog Tryz.f3 Rows.satExactRow.domain false) (Rows.satExactSpec.post enc Tryz.prog Tryz.f3 false true false false) := by
 refine returnsInHanded_of_change_sized (C := Tryz.checked) own started (by kernel_rfl) Tryz.func3
  (ChangeSpec.witness6 (enc := enc) (C := Tryz.checked) false ⟨#[], #[.slice none 0 0, .agg #[.string ByteArray.empty, .string ByteArray.empty, .slice none 0 0, .slice none 0 0], .slice none 0 0, .int .i64 0, .slice none 0 0], []⟩ 8 (by kernel_rfl) (by kernel_rfl) (by kernel_rfl) (by kernel_rfl)) ?_
 intro W base args ds gs before hval0 hW hcnd hsz0 _
 have hval : ∀ (j : Nat) t v, Tryz.f3.params[j]? = some t → args[j]? = some v → Value.okWide Tryz.prog W .any base t v := hval0
 have hW' := hW
 obtain ⟨p, q, hA0, hV, rfl, hfz, hnd⟩ := hW
 have hA : DataW.TrodAll enc Tryz.prog W 0 (fun _ => true) true Tryz.f3.params.toList args.toList ds p := hA0
 rw [Tryz.params3] at hA hval
 obtain ⟨v0, vs0, d0, ds0, p0, q0, hargs, rfl, rfl, h0, r0⟩ := trodAll_cons hA
 obtain ⟨v1, vs1, d1, ds1, p1, q1, rfl, rfl, rfl, h1, r1⟩ := trodAll_cons r0
 obtain ⟨v2, vs2, d2, ds2, p2, q2, rfl, rfl, rfl, h2, r2⟩ := trodAll_cons r1
 obtain ⟨v3, vs3, d3, ds3, p3, q3, rfl, rfl, rfl, h3, r3⟩ := trodAll_cons r2
 obtain ⟨v4, vs4, d4, ds4, p4, q4, rfl, rfl, rfl, h4, r4⟩ := trodAll_cons r3
 obtain ⟨rfl, rfl, rfl⟩ := trodAll_nil r4
 obtain rfl : args = #[v0, v1, v2, v3, v4] := by cases args; simp_all
 obtain ⟨rfl, rfl⟩ := trodVars_none hV
 obtain ⟨a0, len0, cap0, rfl⟩ := okWide_slice Tryz.underlying22 (hval 0 22 v0 rfl rfl)
 have k0 := h0
 have lt0 : ∀ x ∈ p0, x.block < W.heap.size := by obtain ⟨m, hm⟩ := k0; exact DataW.trod_lt m _ _ _ hm
 obtain ⟨l0, rfl, hc0, hr0⟩ : ∃ l : List S62, len0 = l.length ∧ l.length ≤ cap0 ∧ Kd.C k62 W a0 l.length l := by
  obtain ⟨fuel, hf⟩ := h0
  obtain ⟨A, c, l, hcs, hl, hC⟩ := tells_row Tryz.underlying22 (by kernel_rfl) tells62 hf
  simp [Value.cells] at hcs
  obtain ⟨rfl, rfl, rfl⟩ := hcs
  exact ⟨l, rfl, hl, hC⟩
 obtain ⟨u1, rfl, _⟩ := okWide_struct Tryz.underlying27 (hval 1 27 v1 rfl rfl)
 have k1 := h1
 have lt1 : ∀ x ∈ p1, x.block < W.heap.size := by obtain ⟨m, hm⟩ := k1; exact DataW.trod_lt m _ _ _ hm
 obtain ⟨pn, an, A, c, ts, L, lc, l, rfl, hq1, hq2, hq3, hq4⟩ : ∃ (pn an : ByteArray) (A : Option Addr) (c : Nat) (ts : List S92) (L : Option Addr) (lc : Nat) (l : List S62), u1 = #[.string pn, .string an, .slice A ts.length c, .slice L l.length lc] ∧ ts.length ≤ c ∧ Kd.C k92 W A ts.length ts ∧ l.length ≤ lc ∧ Kd.C k62 W L l.length l := by
  obtain ⟨fuel, hf⟩ := h1
  obtain ⟨pn, an, A, c, ts, L, lc, l, e, q1, q2, q3, q4⟩ := pattern_open hf
  exact ⟨pn, an, A, c, ts, L, lc, l, Array.toList_inj.1 (by simpa [Value.cells] using e), q1, q2, q3, q4⟩
 obtain ⟨a2, len2, cap2, rfl⟩ := okWide_slice Tryz.underlying28 (hval 2 28 v2 rfl rfl)
 have k2 := h2
 have lt2 : ∀ x ∈ p2, x.block < W.heap.size := by obtain ⟨m, hm⟩ := k2; exact DataW.trod_lt m _ _ _ hm
 obtain ⟨l2, rfl, hc2, hr2, hi2⟩ : ∃ l : List S58, len2 = l.length ∧ l.length ≤ cap2 ∧ Kd.C k58 W a2 l.length l ∧ ∀ y ∈ l, y.f1.length < 4398046511104 := by
  obtain ⟨fuel, hf⟩ := h2
  obtain ⟨A, c, l, hcs, hl, hC, hI⟩ := facts_row hf (fun n hn => by have := List.all_eq_true.1 hsz0 n (DataW.weights_mem_each (j := 2) rfl rfl n hn); simpa using this)
  simp [Value.cells] at hcs
  obtain ⟨rfl, rfl, rfl⟩ := hcs
  exact ⟨l, rfl, hl, hC, hI⟩
 obtain ⟨a3, rfl, rfl, rfl, w3⟩ := open_int Tryz.underlying3 (hval 3 3 v3 rfl rfl) h3
 obtain ⟨a4, len4, cap4, rfl⟩ := okWide_slice Tryz.underlying29 (hval 4 29 v4 rfl rfl)
 have k4 := h4
 have lt4 : ∀ x ∈ p4, x.block < W.heap.size := by obtain ⟨m, hm⟩ := k4; exact DataW.trod_lt m _ _ _ hm
 obtain ⟨l4, rfl, hc4, hr4⟩ : ∃ l : List S66, len4 = l.length ∧ l.length ≤ cap4 ∧ Kd.C k66 W a4 l.length l := by
  obtain ⟨fuel, hf⟩ := h4
  obtain ⟨A, c, l, hcs, hl, hC⟩ := tells_row Tryz.underlying29 (by kernel_rfl) tells66 hf
  simp [Value.cells] at hcs
  obtain ⟨rfl, rfl, rfl⟩ := hcs
  exact ⟨l, rfl, hl, hC⟩
 clear hA0 hval0 hsz0
 refine (Sat.exact_law a3 ⟨rfl, hc0, hr0⟩ ⟨rfl, hq3, hq4⟩ hq2 hq1 ⟨rfl, hc2, hr2⟩ hi2 ⟨rfl, hc4, hr4⟩).mono fun e W' ⟨he, bel⟩ => ?_
 subst he
 exact ⟨_, rfl, _, _, _, [], _, [], hW', trodAll_mk1 (shut_bool Tryz.underlying4 _), (trodAll_cons_mk (Below.trod laidOut (by kernel_rfl) (of_decide_eq_true (by kernel_rfl)) k0 bel lt0) (trodAll_cons_mk (Below.trod laidOut (by kernel_rfl) (of_decide_eq_true (by kernel_rfl)) k1 bel lt1) (trodAll_cons_mk (Below.trod laidOut (by kernel_rfl) (of_decide_eq_true (by kernel_rfl)) k2 bel lt2) (trodAll_cons_mk (shut_int Tryz.underlying3 w3) (trodAll_cons_mk (Below.trod laidOut (by kernel_rfl) (of_decide_eq_true (by kernel_rfl)) k4 bel lt4) trodAll_mk0))))), rfl, bel.frame _, fun h => by cases h⟩
theorem over : Rows.satExactRow.holds Tryz.pinned (OpenSpec.ofChange Rows.satExactSpec) :=
 OpenClaim.holds_of_wide 3 Tryz.f3 rfl rfl rfl rfl rfl rfl rfl ⟨rfl, rfl, rfl, rfl, rfl⟩ rfl rfl rfl rfl rfl (by kernel_rfl) Tryz.func3 (by kernel_rfl)
  (of_decide_eq_true (by kernel_rfl)) (by unfold Func.isWrapper; first | (rw [if_pos (by decide +kernel)]; kernel_rfl) | (rw [if_neg (by decide +kernel)]; exact ⟨rfl, rfl⟩))
  (fun os started H enc _ => lifted os started H enc)
theorem proved : Rows.SatExactSaid := over
end Go.Proofs.YtghommaokdhjmaaGreat.satExact
namespace Go.Proofs.YtghommaokdhjmaaGreat
theorem satExact_holds : Rows.SatExactSaid := satExact.proved
#print axioms satExact_holds
end Go.Proofs.YtghommaokdhjmaaGreat
