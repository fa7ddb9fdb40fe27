/- A part of the proof: walks of the code and plain laws, printed and by hand; no condition. -/
import Derived.Test.YtghommaokdhjmaaSFC1
/- The references of layer 5 (words, values, lists of values, one more) answer what the plain forms say; texts no longer than a million bytes. -/
set_option linter.unusedVariables false
set_option linter.unusedSimpArgs false
namespace Go.Proofs.Ytghommaokdhjmaa.SpecB
open Go.Shelf Go.RowKit Go.Lib Go.Sort Go.Proofs.SymP Go.Proofs.YtghommaokdhjmaaW.PrintWords Go.Proofs.YtghommaokdhjmaaW.PrintLast Go.Proofs.YtghommaokdhjmaaW.PrintMore Go.Proofs.Ytghommaokdhjmaa.Gate Go.Proofs.Ytghommaokdhjmaa.P Go.Proofs.Ytghommaokdhjmaa.Str Go.Proofs.Ytghommaokdhjmaa.PSpec Go.Proofs.Ytghommaokdhjmaa.BothB
/-! ### Two texts -/
theorem data_get (s : ByteArray) (i : Nat) (h : i < s.size) : s.data.toList.drop i = s[i] :: s.data.toList.drop (i + 1) := by
  have h2 : i < s.data.toList.length := by simpa using h
  rw [List.drop_eq_getElem_cons h2]
  rfl
theorem bt_get (s : ByteArray) (i : Nat) (h : i < s.size) : bt s i = (s[i].toNat : Int) := by
  rw [← bt_at s i (by simpa using h)]; rfl
theorem order_eq (a b : Int) : constableref01_order.f a b = some (if a < b then -1 else if b < a then 1 else 0) := by
  unfold constableref01_order.f
  by_cases h : a < b
  · rw [if_pos h, if_pos h]
  · rw [if_neg h, if_neg h]
    by_cases h2 : a > b
    · rw [if_pos h2, if_pos h2]
    · rw [if_neg h2, if_neg h2]
theorem strings_end (s t : ByteArray) (i : Nat) (h1 : i ≤ s.size) (h2 : i ≤ t.size) (h : ¬ (i < s.size ∧ i < t.size)) : (if (s.size : Int) < t.size then (-1 : Int) else if (t.size : Int) < s.size then 1 else 0) = Lib.compareBytes (s.data.toList.drop i) (t.data.toList.drop i) := by
  by_cases h3 : i < s.size
  · rw [data_get s i h3, show t.data.toList.drop i = [] from List.drop_eq_nil_of_le (by simp; omega), if_neg (by omega), if_pos (by omega)]; rfl
  · rw [show s.data.toList.drop i = [] from List.drop_eq_nil_of_le (by simp; omega)]
    by_cases h4 : i < t.size
    · rw [data_get t i h4, if_pos (by omega)]; rfl
    · rw [show t.data.toList.drop i = [] from List.drop_eq_nil_of_le (by simp; omega), if_neg (by omega), if_neg (by omega)]; rfl
theorem strings_loop (s t : ByteArray) (hs : s.size ≤ 1000000) : ∀ (m i : Nat), i + m = s.size → i ≤ t.size → Ev (fun k => constableref01_Strings.l0 k s t i) (Lib.compareBytes (s.data.toList.drop i) (t.data.toList.drop i)) := by
  intro m
  induction m with
  | zero =>
    intro i h ht
    refine Ev.step (fun k => by rw [constableref01_Strings.l0, if_neg (by omega)]) ?_
    refine Ev.step (fun k => by rw [constableref01_Strings.j1, if_neg (by decide), order_eq, Option.bind_some]) ?_
    rw [strings_end s t i (by omega) ht (by omega)]
    exact Ev.now _
  | succ m ih =>
    intro i h ht
    have hi : i < s.size := by omega
    by_cases hj : i < t.size
    · have hr := bt_range s i
      have hr2 := bt_range t i
      refine Ev.step (fun k => by rw [constableref01_Strings.l0, if_pos (by omega), decide_eq_true (by omega)]) ?_
      refine Ev.step (fun k => by rw [constableref01_Strings.j1, if_pos rfl, if_pos (by omega), if_pos (by omega), if_pos (by omega), order_eq, w64 hs hi, show wrap64 (bt s i) = bt s i by unfold wrap64; omega, show wrap64 (bt t i) = bt t i by unfold wrap64; omega]) ?_
      rw [data_get s i hi, data_get t i hj, Lib.compareBytes]
      by_cases e : bt s i = bt t i
      · simp only [if_pos e]
        have e2 : s[i] = t[i] := by
          rw [bt_get s i hi, bt_get t i hj] at e
          exact UInt8.toNat_inj.1 (by omega)
        rw [e2, if_neg (UInt8.lt_irrefl _), if_neg (UInt8.lt_irrefl _)]
        exact ih (i + 1) (by omega) (by omega)
      · simp only [if_neg e, Option.bind_some]
        have e3 : (s[i] < t[i]) ↔ bt s i < bt t i := by
          rw [bt_get s i hi, bt_get t i hj, UInt8.lt_iff_toNat_lt]; omega
        have e4 : (t[i] < s[i]) ↔ bt t i < bt s i := by
          rw [bt_get s i hi, bt_get t i hj, UInt8.lt_iff_toNat_lt]; omega
        by_cases h5 : bt s i < bt t i
        · rw [if_pos h5, if_pos (e3.2 h5)]; exact Ev.now _
        · rw [if_neg h5, if_pos (show bt t i < bt s i by omega), if_neg (fun h => h5 (e3.1 h)), if_pos (e4.2 (by omega))]; exact Ev.now _
    · refine Ev.step (fun k => by rw [constableref01_Strings.l0, if_pos (by omega), decide_eq_false (by omega)]) ?_
      refine Ev.step (fun k => by rw [constableref01_Strings.j1, if_neg (by decide), order_eq, Option.bind_some]) ?_
      rw [strings_end s t i (by omega) ht (by omega)]
      exact Ev.now _
theorem ev_strings (s t : ByteArray) (hs : s.size ≤ 1000000) : Ev (fun k => constableref01_Strings.f k s t) (cmpS s t) := strings_loop s t hs s.size 0 (by omega) (by omega)
/-! ### Rows of values -/
theorem rbinds_loop (l : List S39) (hf : fitB l = true) (hl : l.length ≤ 1000000) : ∀ (m i : Nat), i + m = l.length → Ev (fun k => constableref01_Binds.l0 k l i) (allFrom (chkT l) m i) := by
  intro m
  induction m with
  | zero =>
    intro i h
    refine Ev.step (fun k => by rw [constableref01_Binds.l0, if_neg (by omega)]) ?_
    exact Ev.now _
  | succ m ih =>
    intro i h
    have hi : i < l.length := by omega
    have hfi := fitB_at hf hi
    have hw := ev_word (rd_T39 l i).f0 hfi.1 true
    rw [word_var] at hw
    have hv := ev_value (rd_T39 l i).f1.f0 (rd_T39 l i).f1.f1 (rd_T39 l i).f1.f2 hfi.2
    refine Ev.step (fun k => by rw [constableref01_Binds.l0, if_pos (by omega), if_pos (by omega), w64 hl hi]) ?_
    refine Ev.bind hw ?_
    rw [allFrom]
    unfold chkT rightP
    cases varP (rd_T39 l i).f0
    · simp only [ff, Bool.false_and]; exact Ev.now _
    · simp only [if_true, Bool.true_and]
      refine Ev.bind hv ?_
      cases (valP (rd_T39 l i).f1.f0 (rd_T39 l i).f1.f1 (rd_T39 l i).f1.f2 == 0)
      · simp only [ff, Bool.false_and]; exact Ev.now _
      · simp only [if_true, Bool.true_and]
        by_cases h0 : i = 0
        · subst h0
          simp only [if_neg (show ¬ (((0 : Nat) : Int) > 0) by omega), decide_true, Bool.true_or, Bool.true_and]
          exact ih 1 (by omega)
        · have hfj := fitB_at hf (show i - 1 < l.length by omega)
          simp only [if_pos (show ((i : Nat) : Int) > 0 by omega), show wrap64 ((i : Int) - 1) = ((i - 1 : Nat) : Int) by unfold wrap64; omega, if_pos (show 0 ≤ ((i - 1 : Nat) : Int) by omega), if_pos (show ((i - 1 : Nat) : Int) < (l.length : Int) by omega), decide_eq_false h0, Bool.false_or]
          refine Ev.bind (ev_strings _ _ hfj.1) ?_
          by_cases hc : cmpS (rd_T39 l ((i - 1 : Nat) : Int)).f0 (rd_T39 l i).f0 < 0
          · rw [(less_iff _ _).2 hc]
            simp only [if_neg (show ¬ (cmpS (rd_T39 l ((i - 1 : Nat) : Int)).f0 (rd_T39 l i).f0 ≥ 0) by omega), Bool.true_and]
            exact ih (i + 1) (by omega)
          · rw [Bool.eq_false_iff.2 (fun h => hc ((less_iff _ _).1 h))]
            simp only [if_pos (show cmpS (rd_T39 l ((i - 1 : Nat) : Int)).f0 (rd_T39 l i).f0 ≥ 0 by omega), Bool.false_and]
            exact Ev.now _
theorem ev_rbinds {l : List S39} (hf : fitB l = true) : Ev (fun k => constableref01_Binds.f k l) (chkP l == 0) := by
  unfold constableref01_Binds.f chkP
  by_cases h : l.length > 100
  · simp only [if_pos (show (l.length : Int) > 100 by omega), if_pos h]; exact Ev.now _
  · simp only [if_neg (show ¬ (l.length : Int) > 100 by omega), if_neg h]
    have := rbinds_loop l hf (by omega) l.length 0 (by omega)
    cases h2 : allFrom (chkT l) l.length 0
    · rw [h2] at this; exact this
    · rw [h2] at this; exact this
/-- x put into a rising row. -/
def insX (x : S39) : List S39 → List S39
  | [] => [x]
  | y :: l => if cfB x y < 0 then x :: y :: l else y :: insX x l
theorem insX_mem (x : S39) : ∀ (l : List S39) (y : S39), y ∈ insX x l ↔ y ∈ l ∨ y = x
  | [], y => by simp [insX]
  | z :: l, y => by
    unfold insX
    split
    · simp only [List.mem_cons]; rw [or_comm]
    · simp only [List.mem_cons, insX_mem x l y, or_assoc]
theorem insX_rises (x : S39) : ∀ (l : List S39), Rises l → (∀ y ∈ l, y.f0 ≠ x.f0) → Rises (insX x l)
  | [], _, _ => List.pairwise_singleton _ _
  | z :: l, h, hn => by
    have h2 := List.pairwise_cons.1 h
    unfold insX
    split
    · rename_i hc
      refine List.pairwise_cons.2 ⟨fun y hy => ?_, h⟩
      rcases List.mem_cons.1 hy with rfl | hy
      · exact hc
      · exact cf_lt hc (h2.1 y hy)
    · rename_i hc
      refine List.pairwise_cons.2 ⟨fun y hy => ?_, insX_rises x l h2.2 fun y hy => hn y (List.mem_cons_of_mem _ hy)⟩
      rcases (insX_mem x l y).1 hy with hy | rfl
      · exact h2.1 y hy
      · have h3 := cf_swap z y
        have h4 : cfB z y ≠ 0 := fun e => hn z List.mem_cons_self ((cf_zero _ _).1 e)
        omega
theorem insX_len (x : S39) : ∀ l, (insX x l).length = l.length + 1
  | [] => rfl
  | z :: l => by
    unfold insX
    split
    · rfl
    · simp [insX_len x l]
theorem bind_in (l : List S39) (n : ByteArray) (a b : Int) (s : ByteArray) (hl : l.length ≤ 1000000) : ∀ (m i : Nat) (acc : List S39), i + m = l.length → acc.length ≤ 1000000 + i → Ev (fun k => constableref01_Bind.l0 k l n acc true i a b s) (acc ++ l.drop i, true) := by
  intro m
  induction m with
  | zero =>
    intro i acc h ha
    refine Ev.step (fun k => by rw [constableref01_Bind.l0, if_neg (by omega), if_pos rfl]) ?_
    rw [List.drop_eq_nil_of_le (by omega), List.append_nil]
    exact Ev.now _
  | succ m ih =>
    intro i acc h ha
    have hi : i < l.length := by omega
    refine Ev.step (fun k => by rw [constableref01_Bind.l0, if_pos (by omega), if_pos rfl, if_pos (by omega), if_pos (by omega), w64 hl hi, rd_get hi]) ?_
    have := ih (i + 1) (acc ++ [l[i]]) (by omega) (by simp; omega)
    rw [List.append_assoc, List.singleton_append, ← List.drop_eq_getElem_cons hi] at this
    exact this
theorem bind_loop (l : List S39) (n : ByteArray) (a b : Int) (s : ByteArray) (hl : l.length ≤ 1000000) (hn : n.size ≤ 1000000) : ∀ (m i : Nat) (acc : List S39), i + m = l.length → acc.length ≤ i → Ev (fun k => constableref01_Bind.l0 k l n acc false i a b s) (acc ++ insX ⟨n, ⟨a, b, s⟩⟩ (l.drop i), true) := by
  intro m
  induction m with
  | zero =>
    intro i acc h ha
    refine Ev.step (fun k => by rw [constableref01_Bind.l0, if_neg (by omega), if_neg (by decide), if_pos (by omega)]) ?_
    rw [List.drop_eq_nil_of_le (by omega)]
    exact Ev.now _
  | succ m ih =>
    intro i acc h ha
    have hi : i < l.length := by omega
    refine Ev.step (fun k => by rw [constableref01_Bind.l0, if_pos (by omega), if_neg (by decide), if_pos (by omega), w64 hl hi, rd_get hi]) ?_
    refine Ev.bind (ev_strings n l[i].f0 hn) ?_
    rw [List.drop_eq_getElem_cons hi]
    unfold insX cfB
    simp only
    by_cases hc : cmpS n l[i].f0 < 0
    · simp only [if_pos hc, if_pos (show acc.length < 2932031007402 by omega), Option.bind_some, if_pos (show (acc ++ [(⟨n, ⟨a, b, s⟩⟩ : S39)]).length < 2932031007402 by simp; omega)]
      have := bind_in l n a b s hl m (i + 1) (acc ++ [⟨n, ⟨a, b, s⟩⟩] ++ [l[i]]) (by omega) (by simp; omega)
      simp only [List.append_assoc, List.singleton_append] at this ⊢
      exact this
    · simp only [if_neg hc, if_pos (show acc.length < 2932031007402 by omega)]
      have := ih (i + 1) (acc ++ [l[i]]) (by omega) (by simp; omega)
      rw [List.append_assoc, List.singleton_append] at this
      exact this
/-- constableref01.Bind's answer. -/
def bindP (l : List S39) (x : S39) : List S39 × Bool :=
  if (getP l x.f0).2.2.2 = true then (l, ((getP l x.f0).1 == x.f1.f0 && ((getP l x.f0).2.1 == x.f1.f1 && ((getP l x.f0).2.2.1.toList == x.f1.f2.toList))))
  else if l.length ≥ 100 then ([], false) else (insX x l, true)
theorem ev_bind {l : List S39} (hl : l.length ≤ 1000000) (x : S39) (hn : x.f0.size ≤ 1000000) : Ev (fun k => constableref01_Bind.f k l x.f0 x.f1.f0 x.f1.f1 x.f1.f2) (bindP l x) := by
  unfold constableref01_Bind.f bindP
  refine Ev.bind (ev_rget hl x.f0) ?_
  by_cases h : (getP l x.f0).2.2.2 = true
  · simp only [if_pos h]; exact Ev.now _
  · simp only [if_neg h]
    by_cases h2 : l.length ≥ 100
    · simp only [if_pos h2, if_pos (show (l.length : Int) ≥ 100 by omega)]; exact Ev.now _
    · simp only [if_neg h2, if_neg (show ¬ (l.length : Int) ≥ 100 by omega)]
      exact bind_loop l x.f0 x.f1.f0 x.f1.f1 x.f1.f2 hl hn l.length 0 [] (by omega) (by simp)
theorem bindP_cases {l : List S39} (hl : chkP l = 0) {x : S39} (hx : rightP x = true) : (∃ m, bindP l x = (m, true) ∧ With l x m) ∨ ((bindP l x).2 = false ∧ ∀ m, ¬ With l x m) := by
  unfold bindP
  have hr := (right_iff l).1 hl
  rcases getP_cases x.f0 l with ⟨y, h1, h2, h3⟩ | ⟨h1, h2⟩
  · rw [h3]
    simp only [if_true]
    by_cases e : y = x
    · subst e
      refine .inl ⟨l, by simp, hl, hx, hl, fun z => ⟨.inl, fun h => h.elim id fun h => h ▸ h1⟩⟩
    · refine .inr ⟨?_, fun m hm => ?_⟩
      · rw [Bool.eq_false_iff]
        intro h
        simp only [Bool.and_eq_true, beq_iff_eq, tl_iff] at h
        refine e ?_
        obtain ⟨y0, y1, y2, y3⟩ := y
        obtain ⟨x0, x1, x2, x3⟩ := x
        simp only at h h2
        obtain ⟨rfl, rfl, rfl⟩ := h
        subst h2
        rfl
      · exact e (rises_inj ((right_iff m).1 hm.2.2.1).2.2 ((hm.2.2.2 y).2 (.inl h1)) ((hm.2.2.2 x).2 (.inr rfl)) h2)
  · rw [h2]
    simp only [ff]
    have hrise := insX_rises x l hr.2.2 h1
    by_cases h4 : l.length ≥ 100
    · rw [if_pos h4]
      refine .inr ⟨rfl, fun m hm => ?_⟩
      have e : m = insX x l := rises_only ((right_iff m).1 hm.2.2.1).2.2 hrise fun z => by rw [hm.2.2.2, insX_mem]
      have h5 := right_len hm.2.2.1
      rw [e, insX_len] at h5
      omega
    · rw [if_neg h4]
      refine .inl ⟨insX x l, rfl, hl, hx, (right_iff _).2 ⟨by rw [insX_len]; omega, fun y hy => ?_, hrise⟩, insX_mem x l⟩
      rcases (insX_mem x l y).1 hy with hy | rfl
      · exact hr.2.1 y hy
      · exact hx
end Go.Proofs.Ytghommaokdhjmaa.SpecB
