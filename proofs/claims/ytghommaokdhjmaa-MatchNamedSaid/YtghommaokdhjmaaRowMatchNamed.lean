/- The row of MatchNamed, and what it rests on; no condition. -/
import Derived.Test.YtghommaokdhjmaaRowMatchNamed1
import Derived.Test.YtghommaokdhjmaaRows
import Derived.WalkKit
import Derived.ProofKit
import Derived.OpenShut
import Derived.ShutString
import Derived.ChangeOld
import Derived.Below
import Derived.SizedLaws
/- MatchNamed's plain law: the printed function answers true from some number of rounds on; no condition. -/
set_option linter.unusedVariables false
set_option linter.unusedSimpArgs false
namespace Go.Proofs.Ytghommaokdhjmaa.Pure
open Go.RowKit Go.Lib Go.Sort Go.Proofs.YtghommaokdhjmaaW.PrintWords Go.Proofs.YtghommaokdhjmaaW.PrintLast Go.Proofs.Ytghommaokdhjmaa.Gate Go.Proofs.Ytghommaokdhjmaa.P Go.Proofs.Ytghommaokdhjmaa.PSpec Go.Proofs.Ytghommaokdhjmaa.BothB Go.Proofs.Ytghommaokdhjmaa.FactC Go.Proofs.Ytghommaokdhjmaa.SpecM
open Go.Proofs.Ytghommaokdhjmaa.SpecB hiding tl_iff ff
theorem rdS_get {l : List ByteArray} {i : Nat} (hi : i < l.length) : rdOf ByteArray.empty l i = l[i] := by
  unfold rdOf
  rw [Int.toNat_natCast, List.getD_eq_getElem?_getD, List.getElem?_eq_getElem hi]; rfl
/-- Aa to Ff. -/
def nm6 : List ByteArray := [⟨#[65, 97]⟩, ⟨#[66, 98]⟩, ⟨#[67, 99]⟩, ⟨#[68, 100]⟩, ⟨#[69, 101]⟩, ⟨#[70, 102]⟩]
theorem nm6_len : nm6.length = 6 := rfl
theorem nm6_var : ∀ x ∈ nm6, varP x = true := by decide +kernel
theorem nm6_size : ∀ x ∈ nm6, x.size ≤ 1000000 := by decide
theorem nm6_inj : ∀ i, ∀ h : i < nm6.length, ∀ j, ∀ h2 : j < nm6.length, nm6[i] = nm6[j] → i = j := by decide +kernel
/-- What terms and values say that match. -/
def Good (ts : List S77) (vs : List S24) : Prop := (∀ p ∈ ts.zip vs, con p.1 → p.1.f1 = p.2) ∧ ∀ p ∈ ts.zip vs, ∀ q ∈ ts.zip vs, ¬ con p.1 → ¬ con q.1 → p.1.f0 = q.1.f0 → p.2 = q.2
theorem fit_good {ts : List S77} {vs : List S24} {m : List S39} (h : Fit [] ts vs m) : Good ts vs := by
  refine ⟨h.2.2.1, fun p hp q hq hcp hcq e => ?_⟩
  have a : bnd p.1 p.2 ∈ m := (h.2.2.2 _).2 (.inr ⟨p, hp, hcp, rfl⟩)
  have b : bnd q.1 q.2 ∈ m := (h.2.2.2 _).2 (.inr ⟨q, hq, hcq, rfl⟩)
  have := rises_inj ((right_iff m).1 h.2.1).2.2 a b e
  injection this
theorem term_name {t : S77} (h : termP t = true) (hc : ¬ con t) : varP t.f0 = true ∧ t.f1 = ⟨0, 0, ⟨#[]⟩⟩ := by
  unfold termP at h
  rw [if_neg (show ¬ t.f0.toList = [] from hc)] at h
  simp only [Bool.and_eq_true, beq_iff_eq] at h
  refine ⟨h.1, ?_⟩
  obtain ⟨t0, t1, t2, t3⟩ := t
  simp only at h ⊢
  have h3 : t3 = ⟨#[]⟩ := (tl_iff _ _).1 (by rw [h.2.2.2, ne_toList])
  rw [h.2.1, h.2.2.1, h3]
theorem good_fit {a b : ByteArray} {ts : List S77} {vs : List S24} (h1 : matP a ts = 0) (h2 : factP b vs = 0) (hn : ts.length = vs.length) (h : Good ts vs) : ∃ m, Fit [] ts vs m := by
  have z1 := mat_zero.1 h1
  have z2 := fact_zero.1 h2
  let L : List S39 := ((ts.zip vs).filter fun p => decide (¬ con p.1)).map fun p => bnd p.1 p.2
  have hL : ∀ x, x ∈ L ↔ ∃ p ∈ ts.zip vs, ¬ con p.1 ∧ x = bnd p.1 p.2 := fun x => by
    show x ∈ List.map _ _ ↔ _
    rw [List.mem_map]
    constructor
    · rintro ⟨p, hp, rfl⟩
      have := List.mem_filter.1 hp
      exact ⟨p, this.1, of_decide_eq_true this.2, rfl⟩
    · rintro ⟨p, hp, hc, rfl⟩
      exact ⟨p, List.mem_filter.2 ⟨hp, decide_eq_true hc⟩, rfl⟩
  have hinj : ∀ x ∈ L, ∀ y ∈ L, x.f0 = y.f0 → x = y := fun x hx y hy e => by
    obtain ⟨p, hp, hcp, rfl⟩ := (hL x).1 hx
    obtain ⟨q, hq, hcq, rfl⟩ := (hL y).1 hy
    have e1 : p.1.f0 = q.1.f0 := e
    unfold bnd
    rw [e1, h.2 p hp q hq hcp hcq e1]
  have hrise : Rises (bothL L) := compact_rises (sortB_sorted _) (fun x hx y hy e => hinj x ((sortB_perm L).mem_iff.1 hx) y ((sortB_perm L).mem_iff.1 hy) e) _ (Nat.le_refl _)
  have hlen : (bothL L).length ≤ 100 := by
    have h3 : (bothL L).length ≤ L.length := by
      unfold bothL compactUpTo
      rw [List.length_map]
      refine Nat.le_trans (List.length_filter_le _ _) ?_
      rw [List.length_range]
      simpa using Nat.le_of_eq (sortB_perm L).length_eq
    have h4 : L.length ≤ (ts.zip vs).length := by
      show (List.map _ _).length ≤ _
      rw [List.length_map]
      exact List.length_filter_le _ _
    have h5 : (ts.zip vs).length ≤ 5 := by rw [List.length_zip]; omega
    omega
  refine ⟨bothL L, right_nil, (right_iff _).2 ⟨hlen, fun x hx => ?_, hrise⟩, h.1, fun x => ?_⟩
  · obtain ⟨p, hp, hc, rfl⟩ := (hL x).1 ((bothL_mem L x).1 hx)
    unfold rightP bnd
    rw [(term_name (z1.2.2 _ (List.of_mem_zip hp).1) hc).1, z2.2.2 _ (List.of_mem_zip hp).2]; rfl
  · rw [bothL_mem, hL]
    constructor
    · exact fun h => .inr h
    · rintro (h | h)
      · simp at h
      · exact h
/-! ### The other names -/
/-- What the inner loop makes of a term's twin u. -/
def inn (t u : S77) : List ByteArray → List ByteArray → S77
  | v :: vs, n :: ns => inn t (if t.f0.toList = v.toList then ⟨n, u.f1⟩ else u) vs ns
  | [], _ => u
  | _ :: _, [] => u
theorem inn_no (t : S77) : ∀ (vs ns : List ByteArray) (u : S77), (∀ x ∈ vs, t.f0 ≠ x) → inn t u vs ns = u
  | [], ns, u, _ => by rw [inn]
  | v :: vs, [], u, _ => by rw [inn]
  | v :: vs, n :: ns, u, h => by
    rw [inn, if_neg (fun e => h v List.mem_cons_self ((tl_iff _ _).1 e))]
    exact inn_no t vs ns u fun x hx => h x (List.mem_cons_of_mem _ hx)
theorem inn_at (t : S77) : ∀ (vs ns : List ByteArray) (u : S77) (k : Nat) (hk : k < vs.length) (hn : k < ns.length), vs.Nodup → t.f0 = vs[k] → inn t u vs ns = ⟨ns[k], u.f1⟩
  | [], ns, u, k, hk, _, _, _ => by simp at hk
  | v :: vs, [], u, k, _, hn, _, _ => by simp at hn
  | v :: vs, n :: ns, u, 0, hk, hn, hd, e => by
    have h2 := List.nodup_cons.1 hd
    have e' : t.f0 = v := e
    rw [inn, if_pos ((tl_iff _ _).2 e')]
    exact inn_no t vs ns _ fun x hx ex => h2.1 (by rw [← e', ex]; exact hx)
  | v :: vs, n :: ns, u, k + 1, hk, hn, hd, e => by
    have h2 := List.nodup_cons.1 hd
    have hk' : k < vs.length := by simpa using hk
    have e' : t.f0 = vs[k] := e
    rw [inn, if_neg (fun ex => h2.1 (by rw [← (tl_iff _ _).1 ex, e']; exact List.getElem_mem hk'))]
    exact inn_at t vs ns u k hk' (by simpa using hn) h2.2 e'
/-- A term with the other name. -/
def ren (vars : List ByteArray) (t : S77) : S77 := inn t t vars nm6
section
variable {ts : List S77} (hl : ts.length ≤ 5)
theorem vars_len : ∀ (ts : List S77) (acc : List ByteArray), (varsL acc ts).length ≤ acc.length + ts.length
  | [], acc => by rw [varsL]; simp
  | t :: ts, acc => by
    rw [varsL]
    by_cases hc : con t
    · rw [if_pos hc]; have := vars_len ts acc; simp; omega
    · rw [if_neg hc]
      by_cases ha : (acc.any fun x => decide (t.f0 = x)) = true
      · rw [if_pos ha]; have := vars_len ts acc; simp; omega
      · rw [if_neg ha]; have := vars_len ts (acc ++ [t.f0]); simp at this ⊢; omega
theorem var_place {t : S77} (ht : t ∈ ts) (hc : ¬ con t) : ∃ k, ∃ h : k < (varsL [] ts).length, t.f0 = (varsL [] ts)[k] := by
  have : t.f0 ∈ varsL [] ts := (vars_mem ts [] _).2 (.inr ⟨t, ht, hc, rfl⟩)
  obtain ⟨k, hk, e⟩ := List.mem_iff_getElem.1 this
  exact ⟨k, hk, e.symm⟩
theorem ren_con {t : S77} (hc : con t) : ren (varsL [] ts) t = t := by
  refine inn_no t _ _ _ fun x hx e => ?_
  rcases (vars_mem ts [] x).1 hx with h | ⟨u, _, hu, h⟩
  · simp at h
  · exact hu (by unfold con at *; rw [← h, ← e]; exact hc)
theorem ren_var {t : S77} (hl : ts.length ≤ 5) {k : Nat} (hk : k < (varsL [] ts).length) (e : t.f0 = (varsL [] ts)[k]) : ∃ h : k < nm6.length, ren (varsL [] ts) t = ⟨nm6[k], t.f1⟩ := by
  have := vars_len ts []
  have h6 : k < nm6.length := by rw [nm6_len]; simp at this; omega
  exact ⟨h6, inn_at t _ _ _ k hk h6 (vars_nodup ts [] List.nodup_nil) e⟩
theorem nm6_con {k : Nat} (h : k < nm6.length) (v : S24) : ¬ con ⟨nm6[k], v⟩ := fun hc => by
  have h1 := varP_size (nm6_var _ (List.getElem_mem h))
  have h2 : nm6[k].size = 0 := (con_size _).1 hc
  omega
theorem con_ren (hl : ts.length ≤ 5) {t : S77} (ht : t ∈ ts) : con (ren (varsL [] ts) t) ↔ con t := by
  constructor
  · intro h
    refine Classical.byContradiction fun hc => ?_
    obtain ⟨k, hk, e⟩ := var_place ht hc
    obtain ⟨h6, e2⟩ := ren_var hl hk e
    rw [e2] at h
    exact nm6_con h6 _ h
  · intro h
    rw [ren_con h]; exact h
theorem ren_f1 (hl : ts.length ≤ 5) {t : S77} (ht : t ∈ ts) : (ren (varsL [] ts) t).f1 = t.f1 := by
  by_cases hc : con t
  · rw [ren_con hc]
  · obtain ⟨k, hk, e⟩ := var_place ht hc
    obtain ⟨h6, e2⟩ := ren_var hl hk e
    rw [e2]
theorem ren_inj (hl : ts.length ≤ 5) {t u : S77} (ht : t ∈ ts) (hu : u ∈ ts) (hct : ¬ con t) (hcu : ¬ con u) : (ren (varsL [] ts) t).f0 = (ren (varsL [] ts) u).f0 ↔ t.f0 = u.f0 := by
  obtain ⟨k, hk, e⟩ := var_place ht hct
  obtain ⟨j, hj, f⟩ := var_place hu hcu
  obtain ⟨h6, e2⟩ := ren_var hl hk e
  obtain ⟨h7, f2⟩ := ren_var hl hj f
  rw [e2, f2]
  constructor
  · intro h
    have hkj : k = j := nm6_inj k h6 j h7 h
    subst hkj
    rw [e, f]
  · intro h
    have hkj : k = j := by
      have hd := vars_nodup ts [] List.nodup_nil
      rw [e, f] at h
      exact (List.getElem_inj hd).1 h
    subst hkj
    rfl
theorem good_ren (hl : ts.length ≤ 5) (vs : List S24) : Good (ts.map (ren (varsL [] ts))) vs ↔ Good ts vs := by
  have hz : (ts.map (ren (varsL [] ts))).zip vs = (ts.zip vs).map fun p => (ren (varsL [] ts) p.1, p.2) := by
    rw [List.zip_map_left]; rfl
  have hmem : ∀ p, p ∈ ts.zip vs → p.1 ∈ ts := fun p hp => (List.of_mem_zip hp).1
  unfold Good
  rw [hz]
  constructor
  · rintro ⟨h1, h2⟩
    refine ⟨fun p hp hc => ?_, fun p hp q hq hcp hcq e => ?_⟩
    · have := h1 (ren (varsL [] ts) p.1, p.2) (List.mem_map.2 ⟨p, hp, rfl⟩) ((con_ren hl (hmem p hp)).2 hc)
      rw [ren_f1 hl (hmem p hp)] at this; exact this
    · exact h2 (ren (varsL [] ts) p.1, p.2) (List.mem_map.2 ⟨p, hp, rfl⟩) (ren (varsL [] ts) q.1, q.2) (List.mem_map.2 ⟨q, hq, rfl⟩) (fun h => hcp ((con_ren hl (hmem p hp)).1 h)) (fun h => hcq ((con_ren hl (hmem q hq)).1 h)) ((ren_inj hl (hmem p hp) (hmem q hq) hcp hcq).2 e)
  · rintro ⟨h1, h2⟩
    refine ⟨fun p' hp' hc => ?_, fun p' hp' q' hq' hcp hcq e => ?_⟩
    · obtain ⟨p, hp, rfl⟩ := List.mem_map.1 hp'
      have := h1 p hp ((con_ren hl (hmem p hp)).1 hc)
      show (ren (varsL [] ts) p.1).f1 = p.2
      rw [ren_f1 hl (hmem p hp)]; exact this
    · obtain ⟨p, hp, rfl⟩ := List.mem_map.1 hp'
      obtain ⟨q, hq, rfl⟩ := List.mem_map.1 hq'
      have hcp' : ¬ con p.1 := fun h => hcp ((con_ren hl (hmem p hp)).2 h)
      have hcq' : ¬ con q.1 := fun h => hcq ((con_ren hl (hmem q hq)).2 h)
      exact h2 p hp q hq hcp' hcq' ((ren_inj hl (hmem p hp) (hmem q hq) hcp' hcq').1 e)
theorem mat_ren {a : ByteArray} (h : matP a ts = 0) : matP a (ts.map (ren (varsL [] ts))) = 0 := by
  have z := mat_zero.1 h
  refine mat_zero.2 ⟨z.1, by simpa using z.2.1, fun u hu => ?_⟩
  obtain ⟨t, ht, rfl⟩ := List.mem_map.1 hu
  by_cases hc : con t
  · rw [ren_con hc]; exact z.2.2 t ht
  · obtain ⟨k, hk, e⟩ := var_place ht hc
    obtain ⟨h6, e2⟩ := ren_var z.2.1 hk e
    rw [e2, (term_name (z.2.2 t ht) hc).2]
    exact term_var (nm6_var _ (List.getElem_mem h6))
theorem len_ren (hl : ts.length ≤ 5) : (varsL [] (ts.map (ren (varsL [] ts)))).length = (varsL [] ts).length := by
  have hv := vars_len ts []
  have hnd : (nm6.take (varsL [] ts).length).Nodup := List.Nodup.sublist (List.take_sublist _ _) (by
    refine List.pairwise_iff_getElem.2 fun i j hi hj hij e => ?_
    have := nm6_inj i hi j hj e
    omega)
  have hp := (List.perm_ext_iff_of_nodup (vars_nodup (ts.map (ren (varsL [] ts))) [] List.nodup_nil) hnd).2 fun x => by
    rw [vars_mem]
    constructor
    · rintro (h | ⟨u, hu, hc, rfl⟩)
      · simp at h
      · obtain ⟨t, ht, rfl⟩ := List.mem_map.1 hu
        have hct : ¬ con t := fun h => hc ((con_ren hl ht).2 h)
        obtain ⟨k, hk, e⟩ := var_place ht hct
        obtain ⟨h6, e2⟩ := ren_var hl hk e
        rw [e2]
        exact List.mem_iff_getElem.2 ⟨k, by simp; omega, by simp⟩
    · intro hx
      obtain ⟨k, hk, rfl⟩ := List.mem_iff_getElem.1 hx
      have hk' : k < (varsL [] ts).length := by simp at hk; omega
      rcases (vars_mem ts [] _).1 (List.getElem_mem hk') with h | ⟨t, ht, hc, e⟩
      · simp at h
      · obtain ⟨h6, e2⟩ := ren_var hl hk' e.symm
        refine .inr ⟨ren (varsL [] ts) t, List.mem_map.2 ⟨t, ht, rfl⟩, fun h => hc ((con_ren hl ht).1 h), ?_⟩
        rw [e2]
        simp
  have := hp.length_eq
  rw [List.length_take, nm6_len] at this
  simp at hv
  omega
end
theorem named_l2 {m m' : List S39} (hm : chkP m = 0) (hm' : chkP m' = 0) (vars : List ByteArray) (hl : vars.length ≤ 5) (hat : ∀ k (h : k < vars.length), ∃ v : S24, (⟨vars[k], v⟩ : S39) ∈ m ∧ (⟨nm6[k]'(by rw [nm6_len]; omega), v⟩ : S39) ∈ m') :
    ∀ (d i : Nat), i + d = vars.length → Ev (fun k => constablelaw06_MatchNamed.l2 k vars nm6 m true m' i) true := by
  intro d
  induction d with
  | zero =>
    intro i h
    refine Ev.step (fun k => by rw [constablelaw06_MatchNamed.l2, if_neg (by omega)]) ?_
    exact Ev.bind ev_wakes6 (Ev.now _)
  | succ d ih =>
    intro i h
    have hi : i < vars.length := by omega
    have hn : i < nm6.length := by rw [nm6_len]; omega
    have hml := right_len hm
    have hml' := right_len hm'
    obtain ⟨v, h1, h2⟩ := hat i hi
    refine Ev.step (fun k => by rw [constablelaw06_MatchNamed.l2, if_pos (by omega), if_pos rfl, if_pos (by omega), rdS_get hi, rdS_get hn, w64 (show vars.length ≤ 1000000 by omega) hi]) ?_
    have g1 := ev_rget (l := m) (by omega) vars[i]
    rw [show getP m vars[i] = (v.f0, v.f1, v.f2, true) from getP_of hm h1] at g1
    have g2 := ev_rget (l := m') (by omega) nm6[i]
    rw [show getP m' nm6[i] = (v.f0, v.f1, v.f2, true) from getP_of hm' h2] at g2
    refine Ev.bind g1 ?_
    simp only [if_pos (show (i : Int) < (nm6.length : Int) by omega)]
    refine Ev.bind g2 ?_
    simp only [if_true, beq_self_eq_true, Bool.not_true, Bool.or_self, Bool.false_eq_true, if_false]
    exact ih (i + 1) (by omega)
theorem named_l1 (vars : List ByteArray) (hl : vars.length ≤ 5) (a : ByteArray) (ts : List S77) (b : ByteArray) (vs : List S24) (c : ByteArray) (i : Nat) (hi : i < ts.length) (hts : ts.length ≤ 5) :
    ∀ (d k : Nat), k + d = vars.length → ∀ (tw : List S77) (hw : tw.length = ts.length), Ev (fun q => constablelaw06_MatchNamed.l0 q vars nm6 ((i + 1 : Nat) : Int) a ts b vs c (tw.set i (inn ts[i] (tw[i]'(by omega)) (vars.drop k) (nm6.drop k)))) true →
      Ev (fun q => constablelaw06_MatchNamed.l1 q vars nm6 i k a ts b vs c tw) true := by
  intro d
  induction d with
  | zero =>
    intro k h tw hw he
    rw [List.drop_eq_nil_of_le (show vars.length ≤ k by omega), inn, List.set_getElem_self] at he
    refine Ev.step (fun q => by rw [constablelaw06_MatchNamed.l1, if_neg (by omega), w64 (show ts.length ≤ 1000000 by omega) hi]) he
  | succ d ih =>
    intro k h tw hw he
    have hk : k < vars.length := by omega
    have hn : k < nm6.length := by rw [nm6_len]; omega
    have hiw : i < tw.length := by omega
    rw [List.drop_eq_getElem_cons hk, List.drop_eq_getElem_cons hn, inn] at he
    refine Ev.step (fun q => by rw [constablelaw06_MatchNamed.l1, if_pos (by omega), if_pos (show (k : Int) < (nm6.length : Int) by omega), if_pos (by omega), if_pos (by omega), if_pos (by omega), rdT_get hi, rdS_get hk, rdS_get hn, w64 (show vars.length ≤ 1000000 by omega) hk, if_pos (show (i : Int) < (tw.length : Int) by omega), rdT_get hiw, Int.toNat_natCast]) ?_
    by_cases e : ts[i].f0.toList = vars[k].toList
    · simp only [if_pos e]
      rw [if_pos e] at he
      refine ih (k + 1) (by omega) (tw.set i ⟨nm6[k], tw[i].f1⟩) (by rw [List.length_set]; exact hw) ?_
      rw [List.getElem_set_self, List.set_set]
      exact he
    · simp only [if_neg e]
      rw [if_neg e] at he
      exact ih (k + 1) (by omega) tw hw he
theorem named_l0 {a b : ByteArray} {ts : List S77} {vs : List S24} (h1 : matP a ts = 0) (ha : a.size ≤ 1000000) (hb : b.size ≤ 1000000) (ft : fitT ts = true) (fv : fitV vs = true) :
    ∀ (d i : Nat), i + d = ts.length → Ev (fun k => constablelaw06_MatchNamed.l0 k (varsL [] ts) nm6 i a ts b vs a ((ts.take i).map (ren (varsL [] ts)) ++ ts.drop i)) true := by
  have z1 := mat_zero.1 h1
  have hv := vars_len ts []
  simp only [List.length_nil, Nat.zero_add] at hv
  have hvl : (varsL [] ts).length ≤ 5 := by omega
  intro d
  induction d with
  | zero =>
    intro i h
    have hi : i = ts.length := by omega
    subst hi
    rw [List.take_length, List.drop_length, List.append_nil]
    refine Ev.step (fun k => by rw [constablelaw06_MatchNamed.l0, if_neg (by simp)]) ?_
    have fu : fitT (ts.map (ren (varsL [] ts))) = true := fitT_mem.2 fun u hu => by
      obtain ⟨t, ht, rfl⟩ := List.mem_map.1 hu
      have hf := fitT_mem.1 ft t ht
      rw [ren_f1 z1.2.1 ht]
      refine ⟨?_, hf.2⟩
      by_cases hc : con t
      · rw [ren_con hc]; exact hf.1
      · obtain ⟨k, hk, e⟩ := var_place ht hc
        obtain ⟨h6, e2⟩ := ren_var z1.2.1 hk e
        rw [e2]; exact nm6_size _ (List.getElem_mem h6)
    have e1 := ev_one (a := a) (b := b) ha ft hb fv fit_nil
    have e2 := ev_one (a := a) (b := b) ha fu hb fv fit_nil
    have hus : (ts.map (ren (varsL [] ts))).length = ts.length := by simp
    rcases oneP_cases a ts b vs [] with ⟨m, f1, _, y2, y3, y4, hf⟩ | ⟨f1, hno⟩
    · obtain ⟨m', hf'⟩ := good_fit (mat_ren h1) y2 (hus.trans y4) ((good_ren z1.2.1 vs).2 (fit_good hf))
      rw [f1] at e1
      rw [oneP_fit (mat_ren h1) y2 y3 (hus.trans y4) hf'] at e2
      refine Ev.bind e1 ?_
      refine Ev.bind e2 ?_
      have hlm : m.length = m'.length := by rw [fit_len y4 hf, fit_len (hus.trans y4) hf', len_ren z1.2.1]
      simp only [bne_self_eq_false, Bool.false_eq_true, if_false, if_pos (show (m.length : Int) = (m'.length : Int) by omega)]
      refine named_l2 hf.2.1 hf'.2.1 (varsL [] ts) hvl (fun k hk => ?_) (varsL [] ts).length 0 (by omega)
      rcases (vars_mem ts [] _).1 (List.getElem_mem hk) with hx | ⟨t, ht, hc, e⟩
      · simp at hx
      · obtain ⟨v, hz⟩ := vars_at y4 ht
        obtain ⟨h6, er⟩ := ren_var z1.2.1 hk e.symm
        refine ⟨v, (hf.2.2.2 _).2 (.inr ⟨(t, v), hz, hc, by rw [e]; rfl⟩), (hf'.2.2.2 _).2 (.inr ⟨(ren (varsL [] ts) t, v), ?_, fun h => hc ((con_ren z1.2.1 ht).1 h), by rw [er]; rfl⟩)⟩
        rw [List.zip_map_left]
        exact List.mem_map.2 ⟨(t, v), hz, rfl⟩
    · have f2 : oneP a (ts.map (ren (varsL [] ts))) b vs [] = ([], false) := by
        rcases oneP_cases a (ts.map (ren (varsL [] ts))) b vs [] with ⟨m', _, _, y2, y3, y4, hf'⟩ | ⟨f2, _⟩
        · obtain ⟨m, hf⟩ := good_fit h1 y2 (hus.symm.trans y4) ((good_ren z1.2.1 vs).1 (fit_good hf'))
          exact absurd ⟨h1, y2, y3, hus.symm.trans y4, hf⟩ (hno m)
        · exact f2
      rw [f1] at e1
      rw [f2] at e2
      refine Ev.bind e1 ?_
      refine Ev.bind e2 ?_
      simp only [bne_self_eq_false, Bool.false_eq_true, if_false, if_true]
      by_cases h0 : 0 < (varsL [] ts).length
      · refine Ev.step (fun k => by rw [constablelaw06_MatchNamed.l2, if_pos (by omega), if_neg (by decide)]) ?_
        exact Ev.bind ev_wakes6 (Ev.now _)
      · refine Ev.step (fun k => by rw [constablelaw06_MatchNamed.l2, if_neg (by omega)]) ?_
        exact Ev.bind ev_wakes6 (Ev.now _)
  | succ d ih =>
    intro i h
    have hi : i < ts.length := by omega
    have hlt : ((ts.take i).map (ren (varsL [] ts)) ++ ts.drop i).length = ts.length := by simp; omega
    refine Ev.step (fun k => by rw [constablelaw06_MatchNamed.l0, if_pos (by rw [hlt]; omega)]) ?_
    refine named_l1 (varsL [] ts) hvl a ts b vs a i hi z1.2.1 (varsL [] ts).length 0 (by omega) _ hlt ?_
    have := ih (i + 1) (by omega)
    have e : ((ts.take i).map (ren (varsL [] ts)) ++ ts.drop i).set i (inn ts[i] (((ts.take i).map (ren (varsL [] ts)) ++ ts.drop i)[i]'(by omega)) ((varsL [] ts).drop 0) (nm6.drop 0)) = (ts.take (i + 1)).map (ren (varsL [] ts)) ++ ts.drop (i + 1) := by
      have hti : ((ts.take i).map (ren (varsL [] ts))).length = i := by simp; omega
      have hget : (((ts.take i).map (ren (varsL [] ts)) ++ ts.drop i)[i]'(by omega)) = ts[i] := by
        rw [List.getElem_append_right (by omega)]
        simp [Nat.min_eq_left (Nat.le_of_lt hi)]
      rw [hget, List.drop_zero, List.drop_zero, List.set_append_right _ _ (by omega), hti, Nat.sub_self, List.drop_eq_getElem_cons hi, List.set_cons_zero, List.take_succ_eq_append_getElem hi, List.map_append, List.append_assoc]
      rfl
    rw [e]
    exact this
theorem matchNamed (a : ByteArray) (ts : List S77) (b : ByteArray) (vs : List S24) : ∃ k, constablelaw06_MatchNamed.f k a ts b vs = some true := by
  refine Ev.rounds (g := fun k => constablelaw06_MatchNamed.f k a ts b vs) ?_
  unfold constablelaw06_MatchNamed.f
  obtain ⟨h1, e1, g1⟩ := ev_heavyA a ts
  refine Ev.bind e1 ?_
  cases h1
  rotate_left
  · simp only [if_true]; exact Ev.now _
  obtain ⟨g1a, g1b, g1c⟩ := g1 rfl
  simp only [Bool.false_eq_true, if_false]
  obtain ⟨h2, e2, g2⟩ := ev_heavyF b vs
  refine Ev.bind e2 ?_
  cases h2
  rotate_left
  · simp only [if_true]; exact Ev.now _
  obtain ⟨g2a, g2b, g2c⟩ := g2 rfl
  simp only [Bool.false_eq_true, if_false]
  have ft : fitT ts = true := fitT_mem.2 fun t ht => by have := g1c t ht; omega
  have fv : fitV vs = true := fitV_mem.2 fun v hv => by have := g2c v hv; omega
  refine Ev.bind (ev_ratom (a := a) (by omega) ft) ?_
  by_cases z1 : matP a ts = 0
  rotate_left
  · simp only [decide_eq_false z1, Bool.false_eq_true, if_false]; exact Ev.now _
  simp only [decide_eq_true z1, if_true]
  refine Ev.bind (ev_vars a (by omega)) ?_
  have ht : constablekeep_TwinAtom.f a ts = some (a, ts) := by
    unfold constablekeep_TwinAtom.f
    rw [if_pos (by simp; omega), List.nil_append]
  simp only [ht, Option.bind_some]
  have := named_l0 z1 (by omega) (by omega) ft fv ts.length 0 (by omega) (b := b)
  simp only [List.take_zero, List.map_nil, List.drop_zero, List.nil_append] at this
  exact this
end Go.Proofs.Ytghommaokdhjmaa.Pure
/- The row of MatchNamed: whatever the input, true; out of the printed walk and the plain law. -/
namespace Go.Proofs.Ytghommaokdhjmaa.matchNamed
open Go.ChangeShapes Go.WideShapes Go.ChangeAt Go.RowKit Go.Proofs.YtghommaokdhjmaaW.PrintWords Go.Proofs.Ytghommaokdhjmaa.P Go.Proofs.Ytghommaokdhjmaa.Open
open Go.ChangeMaps (open_string shut_string)
set_option linter.unusedVariables false
theorem own : ownKnob Try.prog.godebug = none := by kernel_rfl
theorem laidOut : laidOutB Try.prog = true := by kernel_rfl
set_option maxRecDepth 100000 in
theorem lifted (os : Os) (started : os.Started) (H : Type) (enc : TypeId × Value → H) :
    ReturnsInHanded {} Try.checked os 14 .any (Rows.matchNamedSpec.pre6 enc Try.prog Try.f14 Rows.matchNamedRow.domain false) (Rows.matchNamedSpec.post enc Try.prog Try.f14 false true false false) := by
  refine returnsInHanded_of_change_sized (C := Try.checked) own started (by kernel_rfl) Try.func14
    (ChangeSpec.witness6 (enc := enc) (C := Try.checked) false ⟨#[], #[.agg #[.string ByteArray.empty, .slice none 0 0], .agg #[.string ByteArray.empty, .slice none 0 0]], []⟩ 8 (by kernel_rfl) (by kernel_rfl) (by kernel_rfl) (by kernel_rfl)) ?_
  intro W base args ds gs before hval0 hW hcnd hsz0 _
  have hval : ∀ (j : Nat) t v, Try.f14.params[j]? = some t → args[j]? = some v → Value.okWide Try.prog W .any base t v := hval0
  have hW' := hW
  obtain ⟨p, q, hA0, hV, rfl, hfz, hnd⟩ := hW
  have hA : DataW.TrodAll enc Try.prog W 0 (fun _ => true) true Try.f14.params.toList args.toList ds p := hA0
  rw [Try.params14] at hA hval
  obtain ⟨v0, vs0, d0, ds0, p0, q0, hargs, rfl, rfl, h0, r0⟩ := trodAll_cons hA
  obtain ⟨v1, vs1, d1, ds1, p1, q1, rfl, rfl, rfl, h1, r1⟩ := trodAll_cons r0
  obtain ⟨rfl, rfl, rfl⟩ := trodAll_nil r1
  obtain rfl : args = #[v0, v1] := by cases args; simp_all
  obtain ⟨rfl, rfl⟩ := trodVars_none hV
  obtain ⟨u0, rfl, _⟩ := okWide_struct Try.underlying69 (hval 0 69 v0 rfl rfl)
  have k0 := h0
  have lt0 : ∀ x ∈ p0, x.block < W.heap.size := by obtain ⟨m, hm⟩ := k0; exact DataW.trod_lt m _ _ _ hm
  obtain ⟨x0, a0, cap0, rfl, hc0, hr0⟩ : ∃ (x : S69) (a : Option Addr) (c : Nat), u0 = #[.string x.f0, .slice a x.f1.length c] ∧ x.f1.length ≤ c ∧ Kd.C k77 W a x.f1.length x.f1 := by
    obtain ⟨fuel, hf⟩ := h0
    obtain ⟨p, hp⟩ := tells69 W _ _ _ hf
    obtain ⟨a, c, e, hl, hC⟩ := k69_open hp
    exact ⟨p, a, c, Array.toList_inj.1 (by simpa [Value.cells] using e), hl, hC⟩
  obtain ⟨u1, rfl, _⟩ := okWide_struct Try.underlying53 (hval 1 53 v1 rfl rfl)
  have k1 := h1
  have lt1 : ∀ x ∈ p1, x.block < W.heap.size := by obtain ⟨m, hm⟩ := k1; exact DataW.trod_lt m _ _ _ hm
  obtain ⟨x1, a1, cap1, rfl, hc1, hr1⟩ : ∃ (x : S53) (a : Option Addr) (c : Nat), u1 = #[.string x.f0, .slice a x.f1.length c] ∧ x.f1.length ≤ c ∧ Kd.C k24 W a x.f1.length x.f1 := by
    obtain ⟨fuel, hf⟩ := h1
    obtain ⟨p, hp⟩ := tells53 W _ _ _ hf
    obtain ⟨a, c, e, hl, hC⟩ := k53_open hp
    exact ⟨p, a, c, Array.toList_inj.1 (by simpa [Value.cells] using e), hl, hC⟩
  clear hA0 hval0 hsz0
  obtain ⟨kf, hkf⟩ := Pure.matchNamed x0.f0 x0.f1 x1.f0 x1.f1
  refine (P.constablelaw06_MatchNamed.calls kf x0.f0 a0 cap0 x0.f1 x1.f0 a1 cap1 x1.f1 true W hr0 hc0 hr1 hc1 hkf).mono fun e W' ⟨he, bel⟩ => ?_
  subst he
  exact ⟨_, rfl, _, _, _, [], _, [], hW', trodAll_mk1 (shut_bool Try.underlying4 _), (trodAll_cons_mk (Below.trod laidOut (by kernel_rfl) (of_decide_eq_true (by kernel_rfl)) k0 bel lt0) (trodAll_cons_mk (Below.trod laidOut (by kernel_rfl) (of_decide_eq_true (by kernel_rfl)) k1 bel lt1) trodAll_mk0)), rfl, bel.frame _, fun h => by cases h⟩
theorem over : Rows.matchNamedRow.holds Try.pinned (OpenSpec.ofChange Rows.matchNamedSpec) :=
  OpenClaim.holds_of_wide 14 Try.f14 rfl rfl rfl rfl rfl rfl rfl ⟨rfl, rfl, rfl, rfl, rfl⟩ rfl rfl rfl rfl rfl (by kernel_rfl) Try.func14 (by kernel_rfl)
    (of_decide_eq_true (by kernel_rfl)) (by unfold Func.isWrapper; first | (rw [if_pos (by decide +kernel)]; kernel_rfl) | (rw [if_neg (by decide +kernel)]; exact ⟨rfl, rfl⟩))
    (fun os started H enc _ => lifted os started H enc)
theorem proved : Rows.MatchNamedSaid := over
end Go.Proofs.Ytghommaokdhjmaa.matchNamed
namespace Go.Proofs.Ytghommaokdhjmaa
/-- The row, under a short name, for the claim. -/
theorem matchNamed_holds : Rows.MatchNamedSaid := matchNamed.proved
#print axioms matchNamed_holds
end Go.Proofs.Ytghommaokdhjmaa
