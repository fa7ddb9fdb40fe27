/- A part of the proof: walks of the code and plain laws, printed and by hand; no condition. -/
import Derived.Test.YtghommaokdhjmaaGreatSZB1
set_option linter.unusedVariables false
set_option linter.unusedSimpArgs false
/- Layer 6 (atoms and facts): what the printed functions answer, as plain functions; what a match has; texts no longer than a million bytes. -/
namespace Go.Proofs.YtghommaokdhjmaaGreat.SpecM
open Go.Shelf Go.RowKit Go.Lib Go.Sort Go.Proofs.SymP Go.Proofs.YtghommaokdhjmaaGreatW.PrintWords Go.Proofs.YtghommaokdhjmaaGreatW.PrintLast Gate P Str PSpec BothB FactC
open Go.Proofs.YtghommaokdhjmaaGreat.SpecB hiding tl_iff
theorem ff {α : Type} {a b : α} : (if false = true then a else b) = b := rfl
theorem sameV (x y : S64) : (!(x.f0 == y.f0) || (!(x.f1 == y.f1) || (!(x.f2.toList == y.f2.toList)))) = true ↔ x ≠ y := by
 obtain ⟨x0, x1, x2⟩ := x
 obtain ⟨y0, y1, y2⟩ := y
 rw [← Bool.not_and, ← Bool.not_and, Bool.not_eq_true', Bool.eq_false_iff]
 simp only [ne_eq, Bool.and_eq_true, beq_iff_eq, tl_iff, S64.mk.injEq]
theorem sameV_t {x y : S64} (h : x = y) : (!(x.f0 == y.f0) || (!(x.f1 == y.f1) || (!(x.f2.toList == y.f2.toList)))) = false := by
 rw [Bool.eq_false_iff]; exact fun h2 => (sameV x y).1 h2 h
theorem sameV_f {x y : S64} (h : x ≠ y) : (!(x.f0 == y.f0) || (!(x.f1 == y.f1) || (!(x.f2.toList == y.f2.toList)))) = true := (sameV x y).2 h
instance : DecidableEq S64 := fun x y => decidable_of_iff (¬ (!(x.f0 == y.f0) || (!(x.f1 == y.f1) || (!(x.f2.toList == y.f2.toList)))) = true) (by rw [sameV]; exact Classical.not_not)
instance : DecidableEq S92 := fun x y => decidable_of_iff (x.f0 = y.f0 ∧ x.f1 = y.f1) (by obtain ⟨_, _⟩ := x; obtain ⟨_, _⟩ := y; simp)
theorem neV_iff (x y : S64) : neV x y = true ↔ x ≠ y := by
 unfold neV
 rw [← sameV, Bool.not_and, Bool.not_and]
/-- m is what the match of terms to values makes of l. -/
def Fit (l : List S66) (ts : List S92) (vs : List S64) (m : List S66) : Prop :=
 chkP l = 0 ∧ chkP m = 0 ∧ (∀ p ∈ ts.zip vs, con p.1 → p.1.f1 = p.2) ∧ ∀ x, x ∈ m ↔ x ∈ l ∨ ∃ p ∈ ts.zip vs, ¬ con p.1 ∧ x = bnd p.1 p.2
theorem fit_only {l m m' : List S66} {ts : List S92} {vs : List S64} (h : Fit l ts vs m) (h' : Fit l ts vs m') : m = m' :=
 rises_only ((right_iff m).1 h.2.1).2.2 ((right_iff m').1 h'.2.1).2.2 fun x => by rw [h.2.2.2, h'.2.2.2]
theorem one_cases : ∀ (ts : List S92) (vs : List S64) (l : List S66), ts.length = vs.length → chkP l = 0 → (∃ m, oneL l ts vs = (m, true) ∧ Fit l ts vs m) ∨ (oneL l ts vs = ([], false) ∧ ∀ m, ¬ Fit l ts vs m)
 | [], vs, l, h, hl => .inl ⟨l, by rw [oneL], hl, hl, fun p hp => by simp at hp, fun x => by simp⟩
 | t :: ts, [], l, h, hl => by simp at h
 | t :: ts, v :: vs, l, h, hl => by
  have h2 : ts.length = vs.length := by simpa using h
  rw [oneL]
  by_cases hc : con t
  ·rw [if_pos hc]
   by_cases hv : t.f1 = v
   ·rw [if_neg (fun h => (neV_iff _ _).1 h hv)]
    rcases one_cases ts vs l h2 hl with ⟨m, e, hf⟩ | ⟨e, hf⟩
    ·refine .inl ⟨m, e, hf.1, hf.2.1, fun p hp hpc => ?_, fun x => ?_⟩
     ·rw [List.zip_cons_cons, List.mem_cons] at hp
      rcases hp with rfl | hp
      ·exact hv
      ·exact hf.2.2.1 p hp hpc
     ·rw [hf.2.2.2, List.zip_cons_cons]
      constructor
      ·rintro (hx | ⟨p, hp, hx⟩)
       ·exact .inl hx
       ·exact .inr ⟨p, List.mem_cons_of_mem _ hp, hx⟩
      ·rintro (hx | ⟨p, hp, hx⟩)
       ·exact .inl hx
       ·rcases List.mem_cons.1 hp with rfl | hp
        ·exact absurd hc hx.1
        ·exact .inr ⟨p, hp, hx⟩
    ·refine .inr ⟨e, fun m hm => hf m ⟨hm.1, hm.2.1, fun p hp => hm.2.2.1 p (by rw [List.zip_cons_cons]; exact List.mem_cons_of_mem _ hp), fun x => ?_⟩⟩
     rw [hm.2.2.2, List.zip_cons_cons]
     constructor
     ·rintro (hx | ⟨p, hp, hx⟩)
      ·exact .inl hx
      ·rcases List.mem_cons.1 hp with rfl | hp
       ·exact absurd hc hx.1
       ·exact .inr ⟨p, hp, hx⟩
     ·rintro (hx | ⟨p, hp, hx⟩)
      ·exact .inl hx
      ·exact .inr ⟨p, List.mem_cons_of_mem _ hp, hx⟩
   ·rw [if_pos ((neV_iff _ _).2 hv)]
    exact .inr ⟨rfl, fun m hm => hv (hm.2.2.1 (t, v) (by rw [List.zip_cons_cons]; exact List.mem_cons_self) hc)⟩
  ·rw [if_neg hc]
   rcases put_cases l (bnd t v) with ⟨m1, e1, hw⟩ | ⟨e1, hw⟩
   ·rw [e1, if_pos rfl]
    rcases one_cases ts vs m1 h2 hw.2.2.1 with ⟨m, e, hf⟩ | ⟨e, hf⟩
    ·refine .inl ⟨m, e, hl, hf.2.1, fun p hp hpc => ?_, fun x => ?_⟩
     ·rw [List.zip_cons_cons, List.mem_cons] at hp
      rcases hp with rfl | hp
      ·exact absurd hpc hc
      ·exact hf.2.2.1 p hp hpc
     ·rw [hf.2.2.2, hw.2.2.2, List.zip_cons_cons]
      constructor
      ·rintro ((hx | hx) | ⟨p, hp, hx⟩)
       ·exact .inl hx
       ·exact .inr ⟨(t, v), List.mem_cons_self, hc, hx⟩
       ·exact .inr ⟨p, List.mem_cons_of_mem _ hp, hx⟩
      ·rintro (hx | ⟨p, hp, hx⟩)
       ·exact .inl (.inl hx)
       ·rcases List.mem_cons.1 hp with rfl | hp
        ·exact .inl (.inr hx.2)
        ·exact .inr ⟨p, hp, hx⟩
    ·refine .inr ⟨e, fun m hm => hf m ⟨hw.2.2.1, hm.2.1, fun p hp => hm.2.2.1 p (by rw [List.zip_cons_cons]; exact List.mem_cons_of_mem _ hp), fun x => ?_⟩⟩
     rw [hm.2.2.2, hw.2.2.2, List.zip_cons_cons]
     constructor
     ·rintro (hx | ⟨p, hp, hx⟩)
      ·exact .inl (.inl hx)
      ·rcases List.mem_cons.1 hp with rfl | hp
       ·exact .inl (.inr hx.2)
       ·exact .inr ⟨p, hp, hx⟩
     ·rintro ((hx | hx) | ⟨p, hp, hx⟩)
      ·exact .inl hx
      ·exact .inr ⟨(t, v), List.mem_cons_self, hc, hx⟩
      ·exact .inr ⟨p, List.mem_cons_of_mem _ hp, hx⟩
   ·rw [e1]
    refine .inr ⟨rfl, fun m hm => ?_⟩
    have hin : bnd t v ∈ m := (hm.2.2.2 _).2 (.inr ⟨(t, v), by rw [List.zip_cons_cons]; exact List.mem_cons_self, hc, rfl⟩)
    refine hw (m.filter fun x => decide (x ∈ l ∨ x = bnd t v)) ⟨hl, right_at hm.2.1 hin, right_filter hm.2.1 _, fun x => ?_⟩
    rw [List.mem_filter, decide_eq_true_eq]
    constructor
    ·exact fun h => h.2
    ·intro h
     refine ⟨?_, h⟩
     rcases h with h | rfl
     ·exact (hm.2.2.2 x).2 (.inl h)
     ·exact hin
theorem one_fit {l m : List S66} {ts : List S92} {vs : List S64} (hn : ts.length = vs.length) (h : Fit l ts vs m) : oneL l ts vs = (m, true) := by
 rcases one_cases ts vs l hn h.1 with ⟨q, e, hq⟩ | ⟨_, hq⟩
 ·rw [e, fit_only hq h]
 ·exact absurd h (hq m)
theorem mat_two (a : ByteArray) (ts : List S92) : matP a ts = 0 ∨ matP a ts = 1 := by unfold matP; split <;> simp
theorem mat_zero {a : ByteArray} {ts : List S92} : matP a ts = 0 ↔ nameP a = true ∧ ts.length ≤ 5 ∧ ∀ t ∈ ts, termP t = true := by
 have e : ts.any wrongT = false ↔ ∀ t ∈ ts, termP t = true := by
  rw [List.any_eq_false]
  unfold wrongT
  simp only [Bool.not_eq_true', Bool.not_eq_false]
 unfold matP
 by_cases h : nameP a = true ∧ ts.length ≤ 5 ∧ ts.any wrongT = false
 ·rw [if_pos h]; exact ⟨fun _ => ⟨h.1, h.2.1, e.1 h.2.2⟩, fun _ => rfl⟩
 ·rw [if_neg h]; exact ⟨fun h => by simp at h, fun h2 => absurd ⟨h2.1, h2.2.1, e.2 h2.2.2⟩ h⟩
theorem fact_zero {a : ByteArray} {vs : List S64} : factP a vs = 0 ↔ nameP a = true ∧ vs.length ≤ 5 ∧ ∀ v ∈ vs, valP v.f0 v.f1 v.f2 = 0 := by
 have e : vs.any wrongV = false ↔ ∀ v ∈ vs, valP v.f0 v.f1 v.f2 = 0 := by
  rw [List.any_eq_false]
  unfold wrongV
  simp only [Bool.not_eq_true', Bool.not_eq_false, beq_iff_eq]
 unfold factP
 by_cases h : nameP a = true ∧ vs.length ≤ 5 ∧ vs.any wrongV = false
 ·rw [if_pos h]; exact ⟨fun _ => ⟨h.1, h.2.1, e.1 h.2.2⟩, fun _ => rfl⟩
 ·rw [if_neg h]; exact ⟨fun h => by simp at h, fun h2 => absurd ⟨h2.1, h2.2.1, e.2 h2.2.2⟩ h⟩
theorem ev_one {a : ByteArray} {ts : List S92} {b : ByteArray} {vs : List S64} {l : List S66} (ha : a.size ≤ 1000000) (ft : fitT ts = true) (hb : b.size ≤ 1000000) (fv : fitV vs = true) (fl : fitB l = true) :
  Ev (fun _ => match_One.f a ts b vs l) (oneP a ts b vs l) := ev_const (if_pos ⟨⟨ha, ft⟩, ⟨hb, fv⟩, fl⟩)
theorem oneP_cases (a : ByteArray) (ts : List S92) (b : ByteArray) (vs : List S64) (l : List S66) :
  (∃ m, oneP a ts b vs l = (m, true) ∧ matP a ts = 0 ∧ factP b vs = 0 ∧ a = b ∧ ts.length = vs.length ∧ Fit l ts vs m) ∨ (oneP a ts b vs l = ([], false) ∧ ∀ m, ¬ (matP a ts = 0 ∧ factP b vs = 0 ∧ a = b ∧ ts.length = vs.length ∧ Fit l ts vs m)) := by
 unfold oneP
 by_cases h : matP a ts = 0 ∧ factP b vs = 0 ∧ chkP l = 0 ∧ a = b ∧ ts.length = vs.length
 ·rw [if_pos h]
  rcases one_cases ts vs l h.2.2.2.2 h.2.2.1 with ⟨m, e, hf⟩ | ⟨e, hf⟩
  ·exact .inl ⟨m, e, h.1, h.2.1, h.2.2.2.1, h.2.2.2.2, hf⟩
  ·exact .inr ⟨e, fun m hm => hf m hm.2.2.2.2⟩
 ·rw [if_neg h]
  exact .inr ⟨rfl, fun m hm => h ⟨hm.1, hm.2.1, hm.2.2.2.2.1, hm.2.2.1, hm.2.2.2.1⟩⟩
theorem oneP_fit {a : ByteArray} {ts : List S92} {b : ByteArray} {vs : List S64} {l m : List S66} (h1 : matP a ts = 0) (h2 : factP b vs = 0) (h3 : a = b) (h4 : ts.length = vs.length) (h5 : Fit l ts vs m) : oneP a ts b vs l = (m, true) := by
 unfold oneP
 rw [if_pos ⟨h1, h2, h5.1, h3, h4⟩]
 exact one_fit h4 h5
theorem fit_fit {l m : List S66} {ts : List S92} {vs : List S64} (h : Fit l ts vs m) (fl : fitB l = true) (ft : fitT ts = true) (fv : fitV vs = true) : fitB m = true := fit_mem.2 fun x hx => by
 rcases (h.2.2.2 x).1 hx with hx | ⟨p, hp, _, rfl⟩
 ·exact fit_mem.1 fl x hx
 ·exact ⟨(fitT_mem.1 ft _ (List.of_mem_zip hp).1).1, fitV_mem.1 fv _ (List.of_mem_zip hp).2⟩
/-! ### The ground -/
def grL (l : List S66) : List S92 → Option (List S64)
 | [] => some []
 | t :: ts => if con t then (grL l ts).map fun r => t.f1 :: r else if (getP l t.f0).2.2.2 = true then (grL l ts).map fun r => (⟨(getP l t.f0).1, (getP l t.f0).2.1, (getP l t.f0).2.2.1⟩ : S64) :: r else none
/-- match.Ground's answer. -/
def groundP (a : ByteArray) (ts : List S92) (l : List S66) : ByteArray × List S64 × Int :=
 if matP a ts = 0 then (if chkP l = 0 then (match grL l ts with | some r => (a, r, 0) | none => ((⟨#[]⟩ : ByteArray), [], 5)) else ((⟨#[]⟩ : ByteArray), [], chkP l)) else ((⟨#[]⟩ : ByteArray), [], matP a ts)
theorem ground_loop (l : List S66) (ts : List S92) (nm : ByteArray) (hll : l.length ≤ 1000000) (hl : ts.length ≤ 1000000) : ∀ (m i : Nat), i + m = ts.length → ∀ acc : List S64, acc.length ≤ i →
  Ev (fun k => match_Ground.l0 k l ts (ts.length : Int) i nm acc) (match grL l (ts.drop i) with | some r => (nm, acc ++ r, 0) | none => ((⟨#[]⟩ : ByteArray), [], 5)) := by
 intro m
 induction m with
 | zero =>
  intro i h acc _
  refine Ev.step (fun k => by rw [match_Ground.l0, if_neg (by omega)]) ?_
  rw [List.drop_eq_nil_of_le (by omega), grL]
  simp only [List.append_nil]
  exact Ev.now _
 | succ m ih =>
  intro i h acc ha
  have hi : i < ts.length := by omega
  refine Ev.step (fun k => by rw [match_Ground.l0, if_pos (by omega), if_pos (by omega), if_pos (by omega), rdT_get hi, w64 hl hi]) ?_
  rw [List.drop_eq_getElem_cons hi, grL]
  by_cases hc : con ts[i]
  ·simp only [if_pos hc, if_pos (show ts[i].f0.toList = [] from hc), if_pos (show acc.length < 4398046511104 by omega)]
   have := ih (i + 1) (by omega) (acc ++ [ts[i].f1]) (by simp; omega)
   cases hg : grL l (ts.drop (i + 1)) with
   | none => rw [hg] at this; exact this
   | some r => rw [hg] at this; simp only [List.append_assoc, List.singleton_append] at this; exact this
  ·simp only [if_neg hc, if_neg (show ¬ ts[i].f0.toList = [] from hc)]
   refine Ev.bind (ev_get hll ts[i].f0) ?_
   by_cases hg2 : (getP l ts[i].f0).2.2.2 = true
   ·simp only [if_pos hg2, if_pos (show acc.length < 4398046511104 by omega)]
    have := ih (i + 1) (by omega) (acc ++ [(⟨(getP l ts[i].f0).1, (getP l ts[i].f0).2.1, (getP l ts[i].f0).2.2.1⟩ : S64)]) (by simp; omega)
    cases hg : grL l (ts.drop (i + 1)) with
    | none => rw [hg] at this; exact this
    | some r => rw [hg] at this; simp only [List.append_assoc, List.singleton_append] at this; exact this
   ·simp only [if_neg hg2]
    exact Ev.now _
theorem ev_ground {a : ByteArray} {ts : List S92} {l : List S66} (ha : a.size ≤ 1000000) (ft : fitT ts = true) (fl : fitB l = true) : Ev (fun k => match_Ground.f k a ts l) (groundP a ts l) := by
 unfold match_Ground.f groundP match_Check.f
 simp only [if_pos (show a.size ≤ 1000000 ∧ fitT ts = true from ⟨ha, ft⟩), Option.bind_some]
 by_cases h1 : matP a ts = 0
 ·simp only [if_pos h1]
  refine Ev.bind (ev_check fl) ?_
  by_cases h2 : chkP l = 0
  ·rw [if_pos h2]
   have hll := right_len h2
   have htl := (mat_zero.1 h1).2.1
   refine Ev.step (fun k => by rw [match_Ground.j0, if_pos h2]) ?_
   have := ground_loop l ts a (by omega) (by omega) ts.length 0 (by omega) [] (by simp)
   simp only [List.nil_append] at this
   exact this
  ·rw [if_neg h2]
   exact Ev.step (fun k => by rw [match_Ground.j0, if_neg h2]) (Ev.now _)
 ·simp only [if_neg h1]
  exact Ev.step (fun k => by rw [match_Ground.j0, if_neg h1]) (Ev.now _)
/-! ### The variables -/
def varsL : List ByteArray → List S92 → List ByteArray
 | acc, [] => acc
 | acc, t :: ts => if con t then varsL acc ts else if (acc.any fun x => decide (t.f0 = x)) = true then varsL acc ts else varsL (acc ++ [t.f0]) ts
theorem ev_contains {l : List ByteArray} (hl : l.length ≤ 1000000) (s : ByteArray) : Ev (fun k => slices_Contains_string_string.f k l s) (l.any fun x => decide (s = x)) := by
 unfold slices_Contains_string_string.f slices_Index_string_string.f
 obtain ⟨r, h1, h2⟩ := index_loop l s hl l.length 0 (by omega)
 rw [List.drop_zero] at h2
 rw [← h2]
 exact Ev.bind h1 (Ev.now _)
theorem vars_loop (ts : List S92) (hl : ts.length ≤ 1000000) : ∀ (m i : Nat), i + m = ts.length → ∀ acc : List ByteArray, acc.length ≤ i → Ev (fun k => match_Vars.l0 k acc ts (ts.length : Int) i) (varsL acc (ts.drop i)) := by
 intro m
 induction m with
 | zero =>
  intro i h acc _
  refine Ev.step (fun k => by rw [match_Vars.l0, if_neg (by omega)]) ?_
  rw [List.drop_eq_nil_of_le (by omega), varsL]
  exact Ev.now _
 | succ m ih =>
  intro i h acc ha
  have hi : i < ts.length := by omega
  refine Ev.step (fun k => by rw [match_Vars.l0, if_pos (by omega), if_pos (by omega), if_pos (by omega), rdT_get hi, w64 hl hi]) ?_
  rw [List.drop_eq_getElem_cons hi, varsL]
  by_cases hc : con ts[i]
  ·simp only [if_pos hc, if_pos (show ts[i].f0.toList = [] from hc)]
   exact ih (i + 1) (by omega) acc (by omega)
  ·simp only [if_neg hc, if_neg (show ¬ ts[i].f0.toList = [] from hc)]
   refine Ev.bind (ev_contains (by omega) ts[i].f0) ?_
   by_cases hx : (acc.any fun x => decide (ts[i].f0 = x)) = true
   ·simp only [if_pos hx]
    exact ih (i + 1) (by omega) acc (by omega)
   ·simp only [if_neg hx, if_pos (show acc.length < 8796093022208 by omega)]
    exact ih (i + 1) (by omega) (acc ++ [ts[i].f0]) (by simp; omega)
theorem ev_vars (a : ByteArray) {ts : List S92} (hl : ts.length ≤ 1000000) : Ev (fun k => match_Vars.f k a ts) (varsL [] ts) := by
 unfold match_Vars.f
 exact vars_loop ts hl ts.length 0 (by omega) [] (by simp)
/-! ### The statements' own: what is played, and two facts held against each other -/
theorem heavyA_loop (ts : List S92) (nm : ByteArray) (hl : ts.length ≤ 1000000) : ∀ (m i : Nat), i + m = ts.length → Ev (fun k => constablelaw06_Heavy.l0 k i nm ts) ((ts.drop i).any fun t => decide (200 < t.f0.size) || decide (200 < t.f1.f2.size)) := by
 intro m
 induction m with
 | zero =>
  intro i h
  refine Ev.step (fun k => by rw [constablelaw06_Heavy.l0, if_neg (by omega)]) ?_
  rw [List.drop_eq_nil_of_le (by omega)]
  exact Ev.now _
 | succ m ih =>
  intro i h
  have hi : i < ts.length := by omega
  refine Ev.step (fun k => by rw [constablelaw06_Heavy.l0, if_pos (by omega), if_pos (by omega), rdT_get hi, w64 hl hi]) ?_
  rw [List.drop_eq_getElem_cons hi, List.any_cons]
  by_cases h1 : 200 < ts[i].f0.size
  ·simp only [if_pos (show (ts[i].f0.size : Int) > 200 by omega), decide_eq_true h1, Bool.true_or]; exact Ev.now _
  ·by_cases h2 : 200 < ts[i].f1.f2.size
   ·simp only [if_neg (show ¬ (ts[i].f0.size : Int) > 200 by omega), if_pos (show (ts[i].f1.f2.size : Int) > 200 by omega), decide_eq_true h2, Bool.true_or, Bool.or_true]; exact Ev.now _
   ·simp only [if_neg (show ¬ (ts[i].f0.size : Int) > 200 by omega), if_neg (show ¬ (ts[i].f1.f2.size : Int) > 200 by omega), decide_eq_false h1, decide_eq_false h2, Bool.false_or]; exact ih (i + 1) (by omega)
theorem ev_heavyA (a : ByteArray) (ts : List S92) : ∃ b, Ev (fun k => constablelaw06_Heavy.f k a ts) b ∧ (b = false → a.size ≤ 200 ∧ ts.length ≤ 20 ∧ ∀ t ∈ ts, t.f0.size ≤ 200 ∧ t.f1.f2.size ≤ 200) := by
 have jt : Ev (fun k => constablelaw06_Heavy.j0 k true a ts) true := Ev.step (fun k => by rw [constablelaw06_Heavy.j0, if_pos rfl]) (Ev.now _)
 unfold constablelaw06_Heavy.f
 by_cases h1 : (a.size : Int) > 200
 ·exact ⟨true, by simp only [if_pos h1]; exact jt, fun h => by cases h⟩
 ·simp only [if_neg h1]
  by_cases h2 : (ts.length : Int) > 20
  ·exact ⟨true, by rw [decide_eq_true h2]; exact jt, fun h => by cases h⟩
  ·refine ⟨ts.any fun t => decide (200 < t.f0.size) || decide (200 < t.f1.f2.size), ?_, fun h => ⟨by omega, by omega, fun t ht => ?_⟩⟩
   ·rw [decide_eq_false h2]
    refine Ev.step (fun k => by rw [constablelaw06_Heavy.j0, if_neg (by decide)]) ?_
    exact heavyA_loop ts a (by omega) ts.length 0 (by omega)
   ·have h3 := List.any_eq_false.1 h t ht
    simp only [Bool.or_eq_true, decide_eq_true_eq, not_or] at h3
    omega
theorem heavyF_loop (vs : List S64) (nm : ByteArray) (hl : vs.length ≤ 1000000) : ∀ (m i : Nat), i + m = vs.length → Ev (fun k => constablelaw03_Heavy.l0 k i nm vs) ((vs.drop i).any fun v => decide (200 < v.f2.size)) := by
 intro m
 induction m with
 | zero =>
  intro i h
  refine Ev.step (fun k => by rw [constablelaw03_Heavy.l0, if_neg (by omega)]) ?_
  rw [List.drop_eq_nil_of_le (by omega)]
  exact Ev.now _
 | succ m ih =>
  intro i h
  have hi : i < vs.length := by omega
  refine Ev.step (fun k => by rw [constablelaw03_Heavy.l0, if_pos (by omega), if_pos (by omega), rdV_get hi, w64 hl hi]) ?_
  rw [List.drop_eq_getElem_cons hi, List.any_cons]
  by_cases h1 : 200 < vs[i].f2.size
  ·simp only [if_pos (show (vs[i].f2.size : Int) > 200 by omega), decide_eq_true h1, Bool.true_or]; exact Ev.now _
  ·simp only [if_neg (show ¬ (vs[i].f2.size : Int) > 200 by omega), decide_eq_false h1, Bool.false_or]; exact ih (i + 1) (by omega)
theorem ev_heavyF (a : ByteArray) (vs : List S64) : ∃ b, Ev (fun k => constablelaw03_Heavy.f k a vs) b ∧ (b = false → a.size ≤ 200 ∧ vs.length ≤ 20 ∧ ∀ v ∈ vs, v.f2.size ≤ 200) := by
 have jt : Ev (fun k => constablelaw03_Heavy.j0 k true a vs) true := Ev.step (fun k => by rw [constablelaw03_Heavy.j0, if_pos rfl]) (Ev.now _)
 unfold constablelaw03_Heavy.f
 by_cases h1 : (a.size : Int) > 200
 ·exact ⟨true, by simp only [if_pos h1]; exact jt, fun h => by cases h⟩
 ·simp only [if_neg h1]
  by_cases h2 : (vs.length : Int) > 20
  ·exact ⟨true, by rw [decide_eq_true h2]; exact jt, fun h => by cases h⟩
  ·refine ⟨vs.any fun v => decide (200 < v.f2.size), ?_, fun h => ⟨by omega, by omega, fun v hv => ?_⟩⟩
   ·rw [decide_eq_false h2]
    refine Ev.step (fun k => by rw [constablelaw03_Heavy.j0, if_neg (by decide)]) ?_
    exact heavyF_loop vs a (by omega) vs.length 0 (by omega)
   ·have h3 := List.any_eq_false.1 h v hv
    simp only [decide_eq_true_eq] at h3
    omega
end Go.Proofs.YtghommaokdhjmaaGreat.SpecM
namespace Go.Proofs.YtghommaokdhjmaaGreat.P
open Go.RowKit Go.Proofs.YtghommaokdhjmaaGreatW.PrintWords Go.Proofs.YtghommaokdhjmaaGreatW.PrintLast Gate

/-! ### constablelaw05_Heavy: function 12 -/
def constablelaw05_Heavy.l0 : Nat → List (S66) → Int → Option (Bool)
 | 0, _, _ => none
 | k + 1, x0, x3 => if x3 < (x0.length : Int) then (if 0 ≤ x3 then (if (((rd_T66 x0 x3).f0).size : Int) > 200 then (some true) else (if (((rd_T66 x0 x3).f1.f2).size : Int) > 200 then (some true) else (constablelaw05_Heavy.l0 k x0 (wrap64 (x3 + 1))))) else (none)) else (some false)
def constablelaw05_Heavy.f (k : Nat) (l0 : List (S66)) : Option (Bool) := if (l0.length : Int) > 110 then (some true) else (constablelaw05_Heavy.l0 k l0 0)
theorem constablelaw05_Heavy.mono_l : ∀ k, (∀ y0 y1, LeO (constablelaw05_Heavy.l0 k y0 y1) (constablelaw05_Heavy.l0 (k + 1) y0 y1))
 | 0 => fun _ _ r h => by simp [constablelaw05_Heavy.l0] at h
 | k + 1 => by
  have ih0 := constablelaw05_Heavy.mono_l k
  ·intro y0 y1
   unfold constablelaw05_Heavy.l0
   repeat' first
   | (with_reducible exact ih0 _ _)
   | (with_reducible exact LeO.refl _)
   | (with_reducible exact LeO.none _)
   | (with_reducible refine LeO.ite ?_ ?_)
   | (with_reducible refine LeO.bind ?_ (fun _ => ?_))
theorem constablelaw05_Heavy.mono : ∀ a0 k, LeO (constablelaw05_Heavy.f k a0) (constablelaw05_Heavy.f (k + 1) a0) := by
 intro a0 k
 have ih0 := constablelaw05_Heavy.mono_l k
 unfold constablelaw05_Heavy.f
 repeat' first
   | (with_reducible exact ih0 _ _)
   | (with_reducible exact LeO.refl _)
   | (with_reducible exact LeO.none _)
   | (with_reducible refine LeO.ite ?_ ?_)
   | (with_reducible refine LeO.bind ?_ (fun _ => ?_))
set_option maxHeartbeats 8000000 in
set_option maxRecDepth 100000 in
theorem constablelaw05_Heavy.calls (k : Nat) (A0 : Option Addr) (c0 : Nat) (l0 : List (S66)) (r : Bool) (w : World) (hr0 : Kd.C k66 w A0 l0.length l0) (hc0 : l0.length ≤ c0) (h : constablelaw05_Heavy.f k l0 = some r) :
  Calls Tryz.prog 12 #[.slice A0 l0.length c0] w fun e w' => e = .returned (.bool r) ∧ Drawn0 w w' := by
 have HR0 := Aside0.mk hr0
 have HC0 := Aside0.mk hc0
 clear hr0 hc0
 have H : (if (l0.length : Int) > 110 then (some true) else (constablelaw05_Heavy.l0 k l0 0)) = some r := h
 clear h
 by_cases c2 : (l0.length : Int) > 110
 ·rw [if_pos c2] at H
  have c2b0 : decide (110 < (l0.length : Int)) = true := decide_eq_true c2
  have c2b1 : decide (110 < l0.length) = true := decide_eq_true (by omega)
  clear c2
  obtain rfl := Option.some.inj H
  go_enter Tryz.func12, Tryz.ntmps12
  go_wp2
  go_ret
  exact ⟨by first | rfl | (simp; done) | (simp [*]; done), by repeat (first | exact Drawn0.refl _ | apply Drawn0.step)⟩
 ·rw [if_neg c2] at H
  have c2b0 : decide (110 < (l0.length : Int)) = false := decide_eq_false c2
  have c2b1 : decide (110 < l0.length) = false := decide_eq_false (by omega)
  clear c2
  have H' := Aside0.mk H
  clear H
  go_enter Tryz.func12, Tryz.ntmps12
  go_wp2
  go_loopg [3] k (fun kq v3 w' => ∃ (x3_1 : Int), v3 = .int .i64 x3_1 ∧ Aside0 (constablelaw05_Heavy.l0 kq l0 x3_1 = some r) ∧ Aside0 (kq ≤ k) ∧ Drawn0 w w')
  case atStart => exact ⟨(0), (by first | rfl | (simp; done) | (simp [*]; done)), H', ⟨Nat.le_refl _⟩, by repeat (first | exact Drawn0.refl _ | apply Drawn0.step)⟩
  case round =>
   clear H'
   (try clear c1); (try clear c2); (try clear c2b0); (try clear c2b1); (try clear p2)
   obtain ⟨x3_1, rfl, HA, HK1, ⟨m1, rfl⟩⟩ := hrel
   cases gk with
   | zero => exact absurd HA.out (by simp [constablelaw05_Heavy.l0])
   | succ k1 =>
    have H := HA.out
    clear HA
    simp only [constablelaw05_Heavy.l0] at H
    by_cases c3 : x3_1 < (l0.length : Int)
    ·rw [if_pos c3] at H
     have c3b0 : decide (x3_1 < (l0.length : Int)) = true := decide_eq_true c3
     clear c3
     by_cases c4 : 0 ≤ x3_1
     ·rw [if_pos c4] at H
      have c4b0 : decide (0 ≤ x3_1) = true := decide_eq_true c4
      clear c4
      by_cases c5 : (((rd_T66 l0 x3_1).f0).size : Int) > 200
      ·rw [if_pos c5] at H
       have c5b0 : decide (200 < (((rd_T66 l0 x3_1).f0).size : Int)) = true := decide_eq_true c5
       have c5b1 : decide (200 < ((rd_T66 l0 x3_1).f0).size) = true := decide_eq_true (by omega)
       clear c5
       obtain rfl := Option.some.inj H
       have p112 : 0 ≤ (x3_1 : Int) := of_decide_eq_true (by first | (with_reducible assumption) | assumption)
       have q112 : x3_1 < (l0.length : Int) := of_decide_eq_true (by first | (with_reducible assumption) | assumption)
       obtain ⟨ad112, e112, hx112_0, hx112_1, hx112_2, hx112_3⟩ := at_T66 HR0.out x3_1 p112 q112
       cases e112
       replace p112 := eq_true p112
       replace q112 := eq_true q112
       go_wp2
       go_ret
       exact ⟨by first | rfl | (simp; done) | (simp [*]; done), by repeat (first | exact Drawn0.refl _ | apply Drawn0.step)⟩
      ·rw [if_neg c5] at H
       have c5b0 : decide (200 < (((rd_T66 l0 x3_1).f0).size : Int)) = false := decide_eq_false c5
       have c5b1 : decide (200 < ((rd_T66 l0 x3_1).f0).size) = false := decide_eq_false (by omega)
       clear c5
       by_cases c6 : (((rd_T66 l0 x3_1).f1.f2).size : Int) > 200
       ·rw [if_pos c6] at H
        have c6b0 : decide (200 < (((rd_T66 l0 x3_1).f1.f2).size : Int)) = true := decide_eq_true c6
        have c6b1 : decide (200 < ((rd_T66 l0 x3_1).f1.f2).size) = true := decide_eq_true (by omega)
        clear c6
        obtain rfl := Option.some.inj H
        have p112 : 0 ≤ (x3_1 : Int) := of_decide_eq_true (by first | (with_reducible assumption) | assumption)
        have q112 : x3_1 < (l0.length : Int) := of_decide_eq_true (by first | (with_reducible assumption) | assumption)
        obtain ⟨ad112, e112, hx112_0, hx112_1, hx112_2, hx112_3⟩ := at_T66 HR0.out x3_1 p112 q112
        cases e112
        replace p112 := eq_true p112
        replace q112 := eq_true q112
        have p113 : 0 ≤ (x3_1 : Int) := of_decide_eq_true (by first | (with_reducible assumption) | assumption)
        have q113 : x3_1 < (l0.length : Int) := of_decide_eq_true (by first | (with_reducible assumption) | assumption)
        obtain ⟨ad113, e113, hx113_0, hx113_1, hx113_2, hx113_3⟩ := at_T66 HR0.out x3_1 p113 q113
        obtain rfl : ad112 = ad113 := (by injection e113)
        replace p113 := eq_true p113
        replace q113 := eq_true q113
        go_wp2
        go_ret
        exact ⟨by first | rfl | (simp; done) | (simp [*]; done), by repeat (first | exact Drawn0.refl _ | apply Drawn0.step)⟩
       ·rw [if_neg c6] at H
        have c6b0 : decide (200 < (((rd_T66 l0 x3_1).f1.f2).size : Int)) = false := decide_eq_false c6
        have c6b1 : decide (200 < ((rd_T66 l0 x3_1).f1.f2).size) = false := decide_eq_false (by omega)
        clear c6
        have H' := Aside0.mk H
        clear H
        have p112 : 0 ≤ (x3_1 : Int) := of_decide_eq_true (by first | (with_reducible assumption) | assumption)
        have q112 : x3_1 < (l0.length : Int) := of_decide_eq_true (by first | (with_reducible assumption) | assumption)
        obtain ⟨ad112, e112, hx112_0, hx112_1, hx112_2, hx112_3⟩ := at_T66 HR0.out x3_1 p112 q112
        cases e112
        replace p112 := eq_true p112
        replace q112 := eq_true q112
        have p113 : 0 ≤ (x3_1 : Int) := of_decide_eq_true (by first | (with_reducible assumption) | assumption)
        have q113 : x3_1 < (l0.length : Int) := of_decide_eq_true (by first | (with_reducible assumption) | assumption)
        obtain ⟨ad113, e113, hx113_0, hx113_1, hx113_2, hx113_3⟩ := at_T66 HR0.out x3_1 p113 q113
        obtain rfl : ad112 = ad113 := (by injection e113)
        replace p113 := eq_true p113
        replace q113 := eq_true q113
        go_wp2
        go_roundg k1
        case measure => have := HK1.out; omega
        case rel => exact ⟨(wrap64 (x3_1 + 1)), (by first | rfl | (simp; done) | (simp [*]; done)), H', ⟨by have := HK1.out; omega⟩, by repeat (first | exact Drawn0.refl _ | apply Drawn0.step)⟩
     ·rw [if_neg c4] at H
      exact absurd H (by simp)
    ·rw [if_neg c3] at H
     have c3b0 : decide (x3_1 < (l0.length : Int)) = false := decide_eq_false c3
     clear c3
     obtain rfl := Option.some.inj H
     go_wp2
     go_ret
     exact ⟨by first | rfl | (simp; done) | (simp [*]; done), by repeat (first | exact Drawn0.refl _ | apply Drawn0.step)⟩

end Go.Proofs.YtghommaokdhjmaaGreat.P
/- The printed functions of layer 5 and of its statements answer their plain forms from some number of rounds on; texts no longer than a million bytes. -/
namespace Go.Proofs.YtghommaokdhjmaaGreat.SpecB
open Go.Shelf Go.RowKit Go.Lib Go.Sort Go.Proofs.SymP Go.Proofs.YtghommaokdhjmaaGreatW.PrintWords Go.Proofs.YtghommaokdhjmaaGreatW.PrintLast Gate P Str PSpec BothB
def heavyX (x : S66) : Bool := decide (200 < x.f0.size) || decide (200 < x.f1.f2.size)
/-- constablelaw05.Heavy's answer. -/
def heavyP (l : List S66) : Bool := decide (110 < l.length) || l.any heavyX
theorem heavy_loop (l : List S66) (hl : l.length ≤ 1000000) : ∀ (m i : Nat), i + m = l.length → Ev (fun k => constablelaw05_Heavy.l0 k l i) ((l.drop i).any heavyX) := by
 intro m
 induction m with
 | zero =>
  intro i h
  refine Ev.step (fun k => by rw [constablelaw05_Heavy.l0, if_neg (by omega)]) ?_
  rw [List.drop_eq_nil_of_le (by omega)]
  exact Ev.now _
 | succ m ih =>
  intro i h
  have hi : i < l.length := by omega
  refine Ev.step (fun k => by rw [constablelaw05_Heavy.l0, if_pos (by omega), if_pos (by omega), rd_get hi, w64 hl hi]) ?_
  rw [List.drop_eq_getElem_cons hi, List.any_cons, heavyX]
  by_cases h1 : 200 < l[i].f0.size
  ·simp only [if_pos (show (l[i].f0.size : Int) > 200 by omega), decide_eq_true h1, Bool.true_or]; exact Ev.now _
  ·by_cases h2 : 200 < l[i].f1.f2.size
   ·simp only [if_neg (show ¬ (l[i].f0.size : Int) > 200 by omega), if_pos (show (l[i].f1.f2.size : Int) > 200 by omega), decide_eq_true h2, Bool.true_or, Bool.or_true]; exact Ev.now _
   ·simp only [if_neg (show ¬ (l[i].f0.size : Int) > 200 by omega), if_neg (show ¬ (l[i].f1.f2.size : Int) > 200 by omega), decide_eq_false h1, decide_eq_false h2, Bool.false_or]; exact ih (i + 1) (by omega)
theorem ev_heavy (l : List S66) : Ev (fun k => constablelaw05_Heavy.f k l) (heavyP l) := by
 unfold constablelaw05_Heavy.f heavyP
 by_cases h : 110 < l.length
 ·simp only [if_pos (show (l.length : Int) > 110 by omega), decide_eq_true h, Bool.true_or]; exact Ev.now _
 ·simp only [if_neg (show ¬ (l.length : Int) > 110 by omega), decide_eq_false h, Bool.false_or]
  exact heavy_loop l (by omega) l.length 0 (by omega)
theorem heavy_no {l : List S66} (h : heavyP l = false) : l.length ≤ 110 ∧ ∀ x ∈ l, x.f0.size ≤ 200 ∧ x.f1.f2.size ≤ 200 := by
 unfold heavyP at h
 rw [Bool.or_eq_false_iff, decide_eq_false_iff_not] at h
 refine ⟨by omega, fun x hx => ?_⟩
 have h2 := List.any_eq_false.1 h.2 x hx
 unfold heavyX at h2
 simp only [Bool.or_eq_true, decide_eq_true_eq, not_or] at h2
 omega
theorem heavy_fit {l : List S66} (h : heavyP l = false) : fitB l = true := fit_mem.2 fun x hx => by have := (heavy_no h).2 x hx; omega
/-! ### The statements' own call -/
def bY : S66 := ⟨⟨#[89]⟩, ⟨1, 1, ⟨#[]⟩⟩⟩
def bX2 : S66 := ⟨⟨#[88]⟩, ⟨1, 2, ⟨#[]⟩⟩⟩
def bE : S66 := ⟨⟨#[]⟩, ⟨0, 0, ⟨#[]⟩⟩⟩
theorem right_bY : rightP bY = true := by unfold rightP; rw [show varP bY.f0 = true by decide +kernel, show valP bY.f1.f0 bY.f1.f1 bY.f1.f2 = 0 from valP_int (by decide) (by decide)]; rfl
theorem right_bX2 : rightP bX2 = true := by unfold rightP; rw [show varP bX2.f0 = true by decide +kernel, show valP bX2.f1.f0 bX2.f1.f1 bX2.f1.f2 = 0 from valP_int (by decide) (by decide)]; rfl
end Go.Proofs.YtghommaokdhjmaaGreat.SpecB
