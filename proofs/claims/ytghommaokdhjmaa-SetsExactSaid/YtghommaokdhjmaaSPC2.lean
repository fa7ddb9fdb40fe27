/- A part of the proof: walks of the code and plain laws, printed and by hand; no condition. -/
import Derived.Test.YtghommaokdhjmaaSPC1
/- The references' texts, values, facts, sets answer what the plain forms say; texts no longer than a million bytes. -/
set_option linter.unusedVariables false
set_option linter.unusedSimpArgs false
namespace Go.Proofs.Ytghommaokdhjmaa.RefS
open Go.RowKit Go.Lib Go.Proofs.YtghommaokdhjmaaW.PrintWords Go.Proofs.Ytghommaokdhjmaa.P Go.Proofs.Ytghommaokdhjmaa.Str Go.Proofs.Ytghommaokdhjmaa.PSpec Go.Proofs.Ytghommaokdhjmaa.CmpF Go.Proofs.Ytghommaokdhjmaa.Fct Go.Proofs.Ytghommaokdhjmaa.FactC Go.Proofs.Ytghommaokdhjmaa.SetsW Go.Proofs.Ytghommaokdhjmaa.PSets
open Go.Proofs.Ytghommaokdhjmaa.SpecB
/-! ### Two texts -/
theorem data_get (s : ByteArray) (i : Nat) (h : i < s.size) : s.data.toList.drop i = s[i] :: s.data.toList.drop (i + 1) := by
  have h2 : i < s.data.toList.length := by simpa using h
  rw [List.drop_eq_getElem_cons h2]
  rfl
theorem bt_get (s : ByteArray) (i : Nat) (h : i < s.size) : bt s i = (s[i].toNat : Int) := by
  rw [← bt_at s i (by simpa using h)]; rfl
theorem order_eq (a b : Int) : constableref01_order.f a b = some (if a < b then -1 else if b < a then 1 else 0) := by
  unfold constableref01_order.f
  by_cases h : a < b
  · rw [if_pos h, if_pos h]
  · rw [if_neg h, if_neg h]
    by_cases h2 : a > b
    · rw [if_pos h2, if_pos h2]
    · rw [if_neg h2, if_neg h2]
theorem strings_end (s t : ByteArray) (i : Nat) (h1 : i ≤ s.size) (h2 : i ≤ t.size) (h : ¬ (i < s.size ∧ i < t.size)) : (if (s.size : Int) < t.size then (-1 : Int) else if (t.size : Int) < s.size then 1 else 0) = Lib.compareBytes (s.data.toList.drop i) (t.data.toList.drop i) := by
  by_cases h3 : i < s.size
  · rw [data_get s i h3, show t.data.toList.drop i = [] from List.drop_eq_nil_of_le (by simp; omega), if_neg (by omega), if_pos (by omega)]; rfl
  · rw [show s.data.toList.drop i = [] from List.drop_eq_nil_of_le (by simp; omega)]
    by_cases h4 : i < t.size
    · rw [data_get t i h4, if_pos (by omega)]; rfl
    · rw [show t.data.toList.drop i = [] from List.drop_eq_nil_of_le (by simp; omega), if_neg (by omega), if_neg (by omega)]; rfl
theorem strings_loop (s t : ByteArray) (hs : s.size ≤ 1000000) : ∀ (m i : Nat), i + m = s.size → i ≤ t.size → Ev (fun k => constableref01_Strings.l0 k s t i) (Lib.compareBytes (s.data.toList.drop i) (t.data.toList.drop i)) := by
  intro m
  induction m with
  | zero =>
    intro i h ht
    refine Ev.step (fun k => by rw [constableref01_Strings.l0, if_neg (by omega)]) ?_
    refine Ev.step (fun k => by rw [constableref01_Strings.j1, if_neg (by decide), order_eq, Option.bind_some]) ?_
    rw [strings_end s t i (by omega) ht (by omega)]
    exact Ev.now _
  | succ m ih =>
    intro i h ht
    have hi : i < s.size := by omega
    by_cases hj : i < t.size
    · have hr := bt_range s i
      have hr2 := bt_range t i
      refine Ev.step (fun k => by rw [constableref01_Strings.l0, if_pos (by omega), decide_eq_true (by omega)]) ?_
      refine Ev.step (fun k => by rw [constableref01_Strings.j1, if_pos rfl, if_pos (by omega), if_pos (by omega), if_pos (by omega), order_eq, w64 hs hi, show wrap64 (bt s i) = bt s i by unfold wrap64; omega, show wrap64 (bt t i) = bt t i by unfold wrap64; omega]) ?_
      rw [data_get s i hi, data_get t i hj, Lib.compareBytes]
      by_cases e : bt s i = bt t i
      · simp only [if_pos e]
        have e2 : s[i] = t[i] := by
          rw [bt_get s i hi, bt_get t i hj] at e
          exact UInt8.toNat_inj.1 (by omega)
        rw [e2, if_neg (UInt8.lt_irrefl _), if_neg (UInt8.lt_irrefl _)]
        exact ih (i + 1) (by omega) (by omega)
      · simp only [if_neg e, Option.bind_some]
        have e3 : (s[i] < t[i]) ↔ bt s i < bt t i := by
          rw [bt_get s i hi, bt_get t i hj, UInt8.lt_iff_toNat_lt]; omega
        have e4 : (t[i] < s[i]) ↔ bt t i < bt s i := by
          rw [bt_get s i hi, bt_get t i hj, UInt8.lt_iff_toNat_lt]; omega
        by_cases h5 : bt s i < bt t i
        · rw [if_pos h5, if_pos (e3.2 h5)]; exact Ev.now _
        · rw [if_neg h5, if_pos (show bt t i < bt s i by omega), if_neg (fun h => h5 (e3.1 h)), if_pos (e4.2 (by omega))]; exact Ev.now _
    · refine Ev.step (fun k => by rw [constableref01_Strings.l0, if_pos (by omega), decide_eq_false (by omega)]) ?_
      refine Ev.step (fun k => by rw [constableref01_Strings.j1, if_neg (by decide), order_eq, Option.bind_some]) ?_
      rw [strings_end s t i (by omega) ht (by omega)]
      exact Ev.now _
theorem ev_strings (s t : ByteArray) (hs : s.size ≤ 1000000) : Ev (fun k => constableref01_Strings.f k s t) (cmpS s t) := strings_loop s t hs s.size 0 (by omega) (by omega)
theorem rname_loop (s : ByteArray) (l : List ByteArray) (hl : l.length ≤ 1000000) : ∀ (m i : Nat), i + m = l.length → Ev (fun k => constableref01_Name.l0 k s l i) (!(l.drop i).any fun x => decide (s = x)) := by
  intro m
  induction m with
  | zero =>
    intro i h
    refine Ev.step (fun k => by rw [constableref01_Name.l0, if_neg (by omega)]) ?_
    rw [List.drop_eq_nil_of_le (by omega)]
    exact Ev.now _
  | succ m ih =>
    intro i h
    have hi : i < l.length := by omega
    have hrd : rdOf ByteArray.empty l (i : Int) = l[i] := by
      unfold rdOf
      rw [Int.toNat_natCast, List.getD_eq_getElem?_getD, List.getElem?_eq_getElem hi]; rfl
    refine Ev.step (fun k => by rw [constableref01_Name.l0, if_pos (by omega), if_pos (by omega), hrd, w64 hl hi]) ?_
    rw [List.drop_eq_getElem_cons hi, List.any_cons]
    by_cases e : s = l[i]
    · simp only [if_pos ((tl_iff _ _).2 e.symm), decide_eq_true e, Bool.true_or, Bool.not_true]; exact Ev.now _
    · simp only [if_neg (fun h => e ((tl_iff _ _).1 h).symm), decide_eq_false e, Bool.false_or]; exact ih (i + 1) (by omega)
theorem ev_rname (s : ByteArray) (hs : s.size ≤ 1000000) : Ev (fun k => constableref01_Name.f k s) (nameP s) := by
  have hw := ev_word s hs false
  rw [word_sym] at hw
  unfold constableref01_Name.f nameP
  have hv : (valP 2 0 s == 0) = symP s := by
    unfold valP
    rw [if_neg (by decide), if_pos rfl, if_pos rfl]
    cases symP s <;> rfl
  rw [hv]
  refine Ev.bind hw ?_
  cases symP s
  · simp only [Bool.false_eq_true, if_false, Bool.false_and]; exact Ev.now _
  · simp only [if_true, Bool.true_and]
    unfold constableref01_words.f
    simp only [Option.bind_some]
    exact rname_loop s wordsL (by decide) wordsL.length 0 (by decide)
theorem fact_zero {a : ByteArray} {vs : List S24} : factP a vs = 0 ↔ nameP a = true ∧ vs.length ≤ 5 ∧ ∀ v ∈ vs, valP v.f0 v.f1 v.f2 = 0 := by
  have e : vs.any wrongV = false ↔ ∀ v ∈ vs, valP v.f0 v.f1 v.f2 = 0 := by
    rw [List.any_eq_false]
    unfold wrongV
    simp only [Bool.not_eq_true', Bool.not_eq_false, beq_iff_eq]
  unfold factP
  by_cases h : nameP a = true ∧ vs.length ≤ 5 ∧ vs.any wrongV = false
  · rw [if_pos h]; exact ⟨fun _ => ⟨h.1, h.2.1, e.1 h.2.2⟩, fun _ => rfl⟩
  · rw [if_neg h]; exact ⟨fun h => by simp at h, fun h2 => absurd ⟨h2.1, h2.2.1, e.2 h2.2.2⟩ h⟩
theorem rfact_loop (vs : List S24) (nm : ByteArray) (fv : fitV vs = true) (hl : vs.length ≤ 1000000) : ∀ (m i : Nat), i + m = vs.length → Ev (fun k => constableref01_Fact.l0 k i nm vs) ((vs.drop i).all fun v => valP v.f0 v.f1 v.f2 == 0) := by
  intro m
  induction m with
  | zero =>
    intro i h
    refine Ev.step (fun k => by rw [constableref01_Fact.l0, if_neg (by omega)]) ?_
    rw [List.drop_eq_nil_of_le (by omega)]
    exact Ev.now _
  | succ m ih =>
    intro i h
    have hi : i < vs.length := by omega
    refine Ev.step (fun k => by rw [constableref01_Fact.l0, if_pos (by omega), if_pos (by omega), rd24_get hi, w64 hl hi]) ?_
    rw [List.drop_eq_getElem_cons hi, List.all_cons]
    refine Ev.bind (ev_value vs[i].f0 vs[i].f1 vs[i].f2 (fitV_mem.1 fv _ (List.getElem_mem hi))) ?_
    cases (valP vs[i].f0 vs[i].f1 vs[i].f2 == 0)
    · simp only [Bool.false_eq_true, if_false, Bool.false_and]; exact Ev.now _
    · simp only [if_true, Bool.true_and]; exact ih (i + 1) (by omega)
theorem ev_rfact {a : ByteArray} {vs : List S24} (ha : a.size ≤ 1000000) (fv : fitV vs = true) : Ev (fun k => constableref01_Fact.f k a vs) (decide (factP a vs = 0)) := by
  have jt : Ev (fun k => constableref01_Fact.j0 k true a vs) false := Ev.step (fun k => by rw [constableref01_Fact.j0, if_pos rfl]) (Ev.now _)
  unfold constableref01_Fact.f
  refine Ev.bind (ev_rname a ha) ?_
  by_cases h1 : nameP a = true
  · simp only [if_pos h1]
    by_cases h2 : vs.length ≤ 5
    · rw [decide_eq_false (show ¬ (vs.length : Int) > 5 by omega)]
      refine Ev.step (fun k => by rw [constableref01_Fact.j0, if_neg (by decide)]) ?_
      have := rfact_loop vs a fv (by omega) vs.length 0 (by omega)
      rw [List.drop_zero] at this
      have e : decide (factP a vs = 0) = vs.all fun v => valP v.f0 v.f1 v.f2 == 0 := by
        rw [Bool.eq_iff_iff, decide_eq_true_eq, fact_zero, List.all_eq_true]
        simp only [beq_iff_eq]
        exact ⟨fun h => h.2.2, fun h => ⟨h1, h2, h⟩⟩
      rw [e]; exact this
    · rw [decide_eq_true (show (vs.length : Int) > 5 by omega), decide_eq_false (fun h => h2 (fact_zero.1 h).2.1)]
      exact jt
  · simp only [if_neg h1]
    rw [decide_eq_false (fun h => h1 (fact_zero.1 h).1)]
    exact jt
/-! ### The order of values, of facts; sets -/
theorem order_ord (a b : Int) : constableref01_order.f a b = some (ordI a b) := order_eq a b
theorem ev_rvalues (x y : S24) (hx : x.f2.size ≤ 1000000) : Ev (fun k => constableref01_Values.f k x.f0 x.f1 x.f2 y.f0 y.f1 y.f2) (cmpV x y) := by
  unfold constableref01_Values.f cmpV
  simp only [order_ord, Option.bind_some, orL]
  by_cases h0 : ordI x.f0 y.f0 = 0
  · simp only [h0, if_true, ne_eq, not_true, if_false]
    by_cases h1 : ordI x.f1 y.f1 = 0
    · simp only [h1, if_true, ne_eq, not_true, if_false]
      rw [show (if cmpS x.f2 y.f2 ≠ 0 then cmpS x.f2 y.f2 else 0) = cmpS x.f2 y.f2 by by_cases h : cmpS x.f2 y.f2 = 0 <;> simp [h]]
      exact Ev.bind (ev_strings _ _ hx) (Ev.now _)
    · simp only [h1, if_false, ne_eq, not_false_eq_true, if_true]
      exact Ev.now _
  · simp only [h0, if_false, ne_eq, not_false_eq_true, if_true]
    exact Ev.now _
theorem rfacts_loop (s t : ByteArray) (l m : List S24) (fv : fitV l = true) (hl : l.length ≤ 1000000) (hm : l.length = m.length) : ∀ (q i : Nat), i + q = l.length → Ev (fun k => constableref01_Facts.l0 k i s l t m) (compareL (l.drop i) (m.drop i)) := by
  intro q
  induction q with
  | zero =>
    intro i h
    refine Ev.step (fun k => by rw [constableref01_Facts.l0, if_neg (by omega)]) ?_
    rw [List.drop_eq_nil_of_le (by omega), List.drop_eq_nil_of_le (by omega)]
    exact Ev.now _
  | succ q ih =>
    intro i h
    have hi : i < l.length := by omega
    have hi2 : i < m.length := by omega
    refine Ev.step (fun k => by rw [constableref01_Facts.l0, if_pos (by omega), if_pos (by omega), if_pos (by omega), rd24_get hi, rd24_get hi2, w64s (by omega)]) ?_
    rw [List.drop_eq_getElem_cons hi, List.drop_eq_getElem_cons hi2, compareL]
    refine Ev.bind (ev_rvalues _ _ (fitV_mem.1 fv _ (List.getElem_mem hi))) ?_
    by_cases h0 : cmpV l[i] m[i] = 0
    · simp only [if_pos h0]
      exact ih (i + 1) (by omega)
    · simp only [if_neg h0]
      exact Ev.now _
theorem ev_rfacts (x y : S53) (hx : fitX x = true) : Ev (fun k => constableref01_Facts.f k x.f0 x.f1 y.f0 y.f1) (cf53 x y) := by
  obtain ⟨h1, h2, h3⟩ := fitX_iff.1 hx
  unfold constableref01_Facts.f cf53 factCmp
  simp only [orL]
  refine Ev.bind (ev_strings _ _ h1) ?_
  by_cases h0 : cmpS x.f0 y.f0 = 0
  · simp only [h0, if_true, ne_eq, not_true, if_false, order_ord, Option.bind_some]
    by_cases h4 : ordI (x.f1.length : Int) (y.f1.length : Int) = 0
    · simp only [h4, if_true, ne_eq, not_true, if_false]
      have h5 := ordI3.zero _ _ h4
      rw [show (if compareL x.f1 y.f1 ≠ 0 then compareL x.f1 y.f1 else 0) = compareL x.f1 y.f1 by by_cases h : compareL x.f1 y.f1 = 0 <;> simp [h]]
      have := rfacts_loop x.f0 y.f0 x.f1 y.f1 h2 (by omega) (by omega) x.f1.length 0 (by omega)
      simpa only [List.drop_zero, Int.natCast_zero] using this
    · simp only [h4, if_false, ne_eq, not_false_eq_true, if_true]
      exact Ev.now _
  · simp only [h0, if_false, ne_eq, not_false_eq_true, if_true]
    exact Ev.now _
theorem wrong_fact (x : S53) : wrongF x = !decide (factP x.f0 x.f1 = 0) := by
  unfold wrongF
  by_cases h : factP x.f0 x.f1 = 0 <;> simp [h]
theorem ev_rfact53 (x : S53) (hx : fitX x = true) : Ev (fun k => constableref01_Fact.f k x.f0 x.f1) (!wrongF x) := by
  obtain ⟨h1, h2, _⟩ := fitX_iff.1 hx
  rw [wrong_fact, Bool.not_not]
  exact ev_rfact h1 h2
theorem rset_loop (l : List S53) (hf : ∀ x ∈ l, fitX x = true) (hl : l.length ≤ 300000) : ∀ (m i : Nat), i + m = l.length → (∀ j (hj : j < l.length), j < i → wrongF l[j] = false ∧ (0 < j → cf53 l[j - 1] l[j] < 0)) → Ev (fun k => constableref01_Set.l0 k l i) (chkF l == 0) := by
  intro m
  induction m with
  | zero =>
    intro i h ha
    rw [(chkF_zero l).2 ⟨List.any_eq_false.2 fun x hx => by
      obtain ⟨j, hj, rfl⟩ := List.getElem_of_mem hx
      simp [(ha j hj (by omega)).1], adj_up fun j hj h0 => (ha j hj (by omega)).2 h0⟩, show ((0 : Int) == 0) = true from rfl]
    exact Ev.step (fun k => by rw [constableref01_Set.l0, if_neg (by omega)]) (Ev.now _)
  | succ m ih =>
    intro i h ha
    have hi : i < l.length := by omega
    have hwr : wrap64 ((i : Int) + 1) = ((i + 1 : Nat) : Int) := w64s (by omega)
    have hb := ev_rfact53 l[i] (hf _ (List.getElem_mem hi))
    refine Ev.step (fun k => by rw [constableref01_Set.l0, if_pos (by omega), if_pos (by omega), rd53_get hi, hwr]) ?_
    refine Ev.bind hb ?_
    cases hq : wrongF l[i] with
    | true =>
      rw [chkF_ne (fun h => by rw [List.any_eq_false] at h; exact h.1 _ (List.getElem_mem hi) hq)]
      simp only [Bool.not_true, Bool.false_eq_true, if_false]
      exact Ev.now _
    | false =>
      simp only [Bool.not_false, if_true]
      by_cases h0 : 0 < i
      · have hp : i - 1 < l.length := by omega
        have hw1 : wrap64 ((i : Int) - 1) = ((i - 1 : Nat) : Int) := by unfold wrap64; omega
        simp only [if_pos (show (i : Int) > 0 by omega), hw1, if_pos (show 0 ≤ ((i - 1 : Nat) : Int) by omega), if_pos (show ((i - 1 : Nat) : Int) < (l.length : Int) by omega), rd53_get hp]
        refine Ev.bind (ev_rfacts _ _ (hf _ (List.getElem_mem hp))) ?_
        by_cases hge : cf53 l[i - 1] l[i] ≥ 0
        · simp only [if_pos hge]
          rw [chkF_ne (fun h => by
            have := List.pairwise_iff_getElem.1 h.2 (i - 1) i hp hi (by omega)
            omega)]
          exact Ev.now _
        · simp only [if_neg hge]
          refine ih (i + 1) (by omega) fun j hj hji => ?_
          by_cases e : j = i
          · subst e; exact ⟨hq, fun _ => by omega⟩
          · exact ha j hj (by omega)
      · simp only [if_neg (show ¬ (i : Int) > 0 by omega)]
        refine ih (i + 1) (by omega) fun j hj hji => ?_
        by_cases e : j = i
        · subst e; exact ⟨hq, fun h => absurd h h0⟩
        · exact ha j hj (by omega)
theorem ev_rset (l : List S53) (h : fitL l = true) : Ev (fun k => constableref01_Set.f k l) (chkF l == 0) := by
  obtain ⟨h1, h2⟩ := fitL_iff.1 h
  have := rset_loop l h1 h2 l.length 0 (by omega) (fun j _ hj => absurd hj (Nat.not_lt_zero _))
  simpa only [constableref01_Set.f, Int.natCast_zero] using this
end Go.Proofs.Ytghommaokdhjmaa.RefS
