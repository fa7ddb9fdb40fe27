/- The row of MatchFree, and what it rests on; no condition. -/
import Derived.Test.YtghommaokdhjmaaRowMatchFree1
import Derived.Test.YtghommaokdhjmaaRows
import Derived.WalkKit
import Derived.ProofKit
import Derived.OpenShut
import Derived.ShutString
import Derived.ChangeOld
import Derived.Below
import Derived.SizedLaws
/- The references' words and values answer what the plain forms say; texts no longer than a million bytes. -/
set_option linter.unusedVariables false
set_option linter.unusedSimpArgs false
namespace Go.Proofs.Ytghommaokdhjmaa.SpecB
open Go.RowKit Go.Proofs.YtghommaokdhjmaaW.PrintWords Go.Proofs.YtghommaokdhjmaaW.PrintLast Go.Proofs.Ytghommaokdhjmaa.Gate Go.Proofs.Ytghommaokdhjmaa.P Go.Proofs.Ytghommaokdhjmaa.PSpec
theorem ff {α : Type} {a b : α} : (if false = true then a else b) = b := rfl
theorem lower_eq (c : Int) : constableref01_Lower.f c = some (smallP c) := by
  unfold smallP val_small.f constableref01_Lower.f
  split <;> rfl
theorem upper_eq (c : Int) : constableref01_Upper.f c = some (largeP c) := by
  unfold largeP val_large.f constableref01_Upper.f
  split <;> rfl
theorem rdigit_eq (c : Int) : constableref01_Digit.f c = some (digitP c) := by
  unfold digitP val_digit.f constableref01_Digit.f
  split <;> rfl
theorem small_iff (c : Int) : smallP c = (decide (97 ≤ c) && decide (c ≤ 122)) := by
  unfold smallP val_small.f
  by_cases h : c ≥ 97
  · rw [if_pos h, decide_eq_true (show 97 ≤ c from h)]; rfl
  · rw [if_neg h, decide_eq_false (show ¬ 97 ≤ c from h)]; rfl
theorem large_iff (c : Int) : largeP c = (decide (65 ≤ c) && decide (c ≤ 90)) := by
  unfold largeP val_large.f
  by_cases h : c ≥ 65
  · rw [if_pos h, decide_eq_true (show 65 ≤ c from h)]; rfl
  · rw [if_neg h, decide_eq_false (show ¬ 65 ≤ c from h)]; rfl
theorem digit_iff (c : Int) : digitP c = (decide (48 ≤ c) && decide (c ≤ 57)) := by
  unfold digitP val_digit.f
  by_cases h : c ≥ 48
  · rw [if_pos h, decide_eq_true (show 48 ≤ c from h)]; rfl
  · rw [if_neg h, decide_eq_false (show ¬ 48 ≤ c from h)]; rfl
theorem let_iff (c : Int) : letP c = (smallP c || (largeP c || (digitP c || decide (c = 95)))) := by
  rw [small_iff, large_iff, digit_iff]
  unfold letP subst_letter.f
  by_cases h1 : 97 ≤ c <;> by_cases h2 : c ≤ 122 <;> by_cases h3 : 65 ≤ c <;> by_cases h4 : c ≤ 90 <;> by_cases h5 : 48 ≤ c <;> by_cases h6 : c ≤ 57 <;>
    simp [h1, h2, h3, h4, h5, h6, BEq.beq] <;> omega
theorem inner_eq (c : Int) : constableref01_inner.f c = some (letP c) := by
  unfold constableref01_inner.f
  rw [let_iff, lower_eq, upper_eq, rdigit_eq]
  simp only [Option.bind_some]
  cases smallP c <;> cases largeP c <;> cases digitP c <;> simp [BEq.beq]
theorem word_loop (s : ByteArray) (hs : s.size ≤ 1000000) : ∀ (m i : Nat), i + m = s.size → Ev (fun k => constableref01_Word.l0 k s i) (allFrom (fun i => letP (bt s i)) m i) := by
  intro m
  induction m with
  | zero =>
    intro i h
    refine Ev.step (fun k => by rw [constableref01_Word.l0, if_neg (by omega)]) ?_
    exact Ev.now _
  | succ m ih =>
    intro i h
    refine Ev.step (fun k => by rw [constableref01_Word.l0, if_pos (by omega), if_pos (by omega), inner_eq, Option.bind_some, w64 hs (show i < s.size by omega)]) ?_
    rw [allFrom]
    cases letP (bt s i)
    · simp only [ff, Bool.false_and]; exact Ev.now _
    · simp only [if_true, Bool.true_and]; exact ih (i + 1) (by omega)
/-- A word: with a small letter ahead, or a large one. -/
def wordP (s : ByteArray) (large : Bool) : Bool := decide (1 ≤ s.size) && decide (s.size ≤ 24) && (if large then largeP (bt s 0) else smallP (bt s 0)) && varAll s
theorem in_eq (a b c : Int) : constableref01_In.f a b c = some (decide (b ≤ a) && decide (a ≤ c)) := by
  unfold constableref01_In.f
  by_cases h : a ≥ b
  · rw [if_pos h, decide_eq_true (show b ≤ a from h)]; rfl
  · rw [if_neg h, decide_eq_false (show ¬ b ≤ a from h)]; rfl
theorem small_large (c : Int) (h : smallP c = true) : largeP c = false := by
  rw [small_iff] at h
  rw [large_iff]
  simp only [Bool.and_eq_true, decide_eq_true_eq] at h
  rw [decide_eq_false (show ¬ c ≤ 90 by omega), Bool.and_false]
theorem ev_word (s : ByteArray) (hs : s.size ≤ 1000000) (large : Bool) : Ev (fun k => constableref01_Word.f k s large) (wordP s large) := by
  have jt : Ev (fun k => constableref01_Word.j0 k s true) false := Ev.step (fun k => by rw [constableref01_Word.j0, if_pos rfl]) (Ev.now _)
  have jf : Ev (fun k => constableref01_Word.j0 k s false) (varAll s) := Ev.step (fun k => by rw [constableref01_Word.j0, if_neg (by decide)]; rfl) (word_loop s hs s.size 0 (by omega))
  unfold constableref01_Word.f
  rw [in_eq]
  unfold wordP
  by_cases h : 1 ≤ s.size ∧ s.size ≤ 24
  · rw [decide_eq_true (show (1 : Int) ≤ (s.size : Int) by omega), decide_eq_true (show (s.size : Int) ≤ 24 by omega), decide_eq_true h.1, decide_eq_true h.2]
    simp only [Bool.and_self, Option.bind_some, if_true, if_pos (show 0 < (s.size : Int) by omega), upper_eq, lower_eq, Bool.true_and]
    cases large
    · cases hl : largeP (bt s 0)
      · simp only [bne_self_eq_false, ff, Bool.false_eq_true, if_false]
        cases smallP (bt s 0)
        · simp only [Bool.not_false, Bool.false_and]; exact jt
        · simp only [Bool.not_true, Bool.true_and]; exact jf
      · have hsm : smallP (bt s 0) = false := by
          cases h2 : smallP (bt s 0)
          · rfl
          · rw [small_large _ h2] at hl; cases hl
        simp only [show (false != true) = true from rfl, if_true, hsm, Bool.false_eq_true, if_false, Bool.false_and]; exact jt
    · cases hl : largeP (bt s 0)
      · simp only [show (true != false) = true from rfl, if_true, Bool.false_and]; exact jt
      · simp only [bne_self_eq_false, ff, if_true, Bool.true_and]; exact jf
  · have hn : (decide ((1 : Int) ≤ (s.size : Int)) && decide ((s.size : Int) ≤ 24)) = false := by
      rw [Bool.and_eq_false_iff, decide_eq_false_iff_not, decide_eq_false_iff_not]; omega
    have hn2 : (decide (1 ≤ s.size) && decide (s.size ≤ 24)) = false := by
      rw [Bool.and_eq_false_iff, decide_eq_false_iff_not, decide_eq_false_iff_not]; omega
    rw [hn, hn2]
    simp only [Option.bind_some, ff, Bool.false_and]; exact jt
theorem word_var (s : ByteArray) : wordP s true = varP s := by
  unfold wordP varP
  rw [if_pos rfl, large_iff]
  simp only [Bool.and_assoc]
theorem allFrom_congr {f g : Nat → Bool} (h : ∀ i, f i = g i) : ∀ m i, allFrom f m i = allFrom g m i
  | 0, _ => rfl
  | m + 1, i => by rw [allFrom, allFrom, h, allFrom_congr h m]
theorem word_sym (s : ByteArray) : wordP s false = symP s := by
  unfold wordP symP varAll
  rw [if_neg (by decide), allFrom_congr (g := symT s) (fun i => by unfold symT; rw [let_iff]; simp only [Bool.or_assoc])]
theorem rplain_loop (s : ByteArray) (hs : s.size ≤ 1000000) (a b : Int) : ∀ (m i : Nat), i + m = s.size → Ev (fun k => constableref01_Value.l0 k i a b s) (allFrom (plainT s) m i) := by
  intro m
  induction m with
  | zero =>
    intro i h
    refine Ev.step (fun k => by rw [constableref01_Value.l0, if_neg (by omega)]) ?_
    exact Ev.now _
  | succ m ih =>
    intro i h
    have hr := bt_range s i
    refine Ev.step (fun k => by rw [constableref01_Value.l0, if_pos (by omega), if_pos (by omega), in_eq, Option.bind_some, w64 hs (show i < s.size by omega), show wrap64 (bt s i) = bt s i by unfold wrap64; omega]) ?_
    rw [allFrom]
    show Ev (fun k => if plainT s i = true then _ else _) _
    cases plainT s i
    · simp only [ff, Bool.false_and]; exact Ev.now _
    · simp only [if_true, Bool.true_and]; exact ih (i + 1) (by omega)
theorem ev_value (a b : Int) (s : ByteArray) (hs : s.size ≤ 1000000) : Ev (fun k => constableref01_Value.f k a b s) (valP a b s == 0) := by
  have jt : Ev (fun k => constableref01_Value.j0 k true a b s) false := Ev.step (fun k => by rw [constableref01_Value.j0, if_pos rfl]) (Ev.now _)
  have jf : Ev (fun k => constableref01_Value.j0 k false a b s) (allFrom (plainT s) s.size 0) := Ev.step (fun k => by rw [constableref01_Value.j0, if_neg (by decide)]; rfl) (rplain_loop s hs a b s.size 0 (by omega))
  have hw := ev_word s hs false
  rw [word_sym] at hw
  have hnil : s.toList = ([] : List UInt8) ↔ s.size = 0 := by
    rw [ByteArray.toList_eq]
    constructor
    · intro h; have := congrArg List.length h; simpa using this
    · intro h; exact List.length_eq_zero_iff.1 (by simpa using h)
  unfold constableref01_Value.f valP
  by_cases h1 : a = 1
  · simp only [if_pos h1, in_eq, Option.bind_some]
    by_cases h2 : b ≥ -4611686018427387904
    · by_cases h3 : b ≤ 4611686018427387904
      · simp only [decide_eq_true (show (-4611686018427387904 : Int) ≤ b from h2), decide_eq_true h3, Bool.and_self, if_true, if_pos h2, if_pos h3]
        by_cases h4 : s.size = 0
        · rw [if_pos (hnil.2 h4), h4]; exact Ev.now _
        · rw [if_neg (fun h => h4 (hnil.1 h)), show ((s.size : Int) == 0) = false from beq_eq_false_iff_ne.2 (by omega)]; exact Ev.now _
      · simp only [decide_eq_false h3, Bool.and_false, ff, if_pos h2, if_neg h3]; exact Ev.now _
    · simp only [decide_eq_false (show ¬ (-4611686018427387904 : Int) ≤ b from h2), Bool.false_and, ff, if_neg h2]; exact Ev.now _
  · simp only [if_neg h1]
    by_cases h2 : a = 2
    · simp only [if_pos h2]
      by_cases h3 : b = 0
      · simp only [if_pos h3]
        refine Ev.bind hw ?_
        cases symP s
        · exact Ev.now _
        · exact Ev.now _
      · simp only [if_neg h3]; exact Ev.now _
    · simp only [if_neg h2]
      by_cases h3 : a = 3
      · simp only [if_pos h3]
        by_cases h4 : b = 0
        · simp only [if_pos h4]
          unfold plainP
          by_cases h5 : s.size ≤ 60
          · rw [decide_eq_false (show ¬ (s.size : Int) > 60 by omega), decide_eq_true h5, Bool.and_true]
            cases h6 : allFrom (plainT s) s.size 0
            · rw [h6] at jf; exact jf
            · rw [h6] at jf; exact jf
          · rw [decide_eq_true (show (s.size : Int) > 60 by omega), decide_eq_false h5, Bool.and_false]; exact jt
        · simp only [if_neg h4]; exact jt
      · simp only [if_neg h3]; exact Ev.now _
end Go.Proofs.Ytghommaokdhjmaa.SpecB
namespace Go.Proofs.Ytghommaokdhjmaa.P
open Go.RowKit Go.Proofs.YtghommaokdhjmaaW.PrintWords Go.Proofs.YtghommaokdhjmaaW.PrintLast Go.Proofs.Ytghommaokdhjmaa.Gate
set_option linter.unusedVariables false
set_option linter.unusedSimpArgs false

attribute [local go_sem high] eqA24
/-! ### constableref01_Term: function 86 -/
def constableref01_Term.f (k : Nat) (a0_0 : ByteArray) (a0_1 : Int) (a0_2 : Int) (a0_3 : ByteArray) : Option (Bool) := if (a0_0.size : Int) > 0 then ((constableref01_Word.f k a0_0 true).bind fun t878 => (if t878 = true then (some (a0_1 == 0 && (a0_2 == 0 && (a0_3.toList == ([] : List UInt8))))) else (some false))) else ((constableref01_Value.f k a0_1 a0_2 a0_3).bind fun t879 => (some t879))
theorem constableref01_Term.mono : ∀ a0 a1 a2 a3 k, LeO (constableref01_Term.f k a0 a1 a2 a3) (constableref01_Term.f (k + 1) a0 a1 a2 a3) := by
 intro a0 a1 a2 a3 k
 unfold constableref01_Term.f
 repeat' first
   | (with_reducible exact constableref01_Value.mono _ _ _ _)
   | (with_reducible exact constableref01_Word.mono _ _ _)
   | (with_reducible exact LeO.refl _)
   | (with_reducible exact LeO.none _)
   | (with_reducible refine LeO.ite ?_ ?_)
   | (with_reducible refine LeO.bind ?_ (fun _ => ?_))
set_option maxHeartbeats 8000000 in
set_option maxRecDepth 100000 in
theorem constableref01_Term.calls (k : Nat) (a0_0 : ByteArray) (a0_1 : Int) (a0_2 : Int) (a0_3 : ByteArray) (r : Bool) (w : World) (h : constableref01_Term.f k a0_0 a0_1 a0_2 a0_3 = some r) :
  Calls Try.prog 86 #[.agg #[.string a0_0, .int .i64 a0_1, .int .i64 a0_2, .string a0_3]] w fun e w' => e = .returned (.bool r) ∧ Below w.heap.size w w' := by
 have hu77 := Try.underlying77
 have hu24 := Try.underlying24
 have HB := Aside0.mk (Below.refl w.heap.size w)
 have H : (if (a0_0.size : Int) > 0 then ((constableref01_Word.f k a0_0 true).bind fun t878 => (if t878 = true then (some (a0_1 == 0 && (a0_2 == 0 && (a0_3.toList == ([] : List UInt8))))) else (some false))) else ((constableref01_Value.f k a0_1 a0_2 a0_3).bind fun t879 => (some t879))) = some r := h
 clear h
 by_cases c2 : (a0_0.size : Int) > 0
 ·rw [if_pos c2] at H
  have c2b0 : decide (0 < (a0_0.size : Int)) = true := decide_eq_true c2
  have c2b1 : decide (0 < a0_0.size) = true := decide_eq_true (by omega)
  clear c2
  replace H := Option.bind_eq_some_iff.mp H
  obtain ⟨t878, A30, H⟩ := H
  replace H : (if t878 = true then (some (a0_1 == 0 && (a0_2 == 0 && (a0_3.toList == ([] : List UInt8))))) else (some false)) = some r := H
  have A3 := Aside0.mk A30
  clear A30
  by_cases c4 : t878 = true
  ·subst c4
   have H1 : (some (a0_1 == 0 && (a0_2 == 0 && (a0_3.toList == ([] : List UInt8))))) = some r := by rw [if_pos rfl] at H; exact H
   clear H
   have H := H1
   clear H1
   obtain rfl := Option.some.inj H
   go_enter Try.func86, Try.ntmps86
   go_wp2_with (first | ((with_reducible refine gate_dst (N := 1) rfl ?_); refine bE (N := 1) (cs := #[.string a0_0, .int .i64 a0_1, .int .i64 a0_2, .string a0_3]) (t := 77) ?_; intro gb877 hg w5 hbox hb; have n0_ := Aside0.mk (below_step bB0 hb); have n1_ := Aside0.mk (hbox); have n2_ := Aside0.mk ((by rw [hg]; exact (below_size bB0) : w.heap.size ≤ gb877)); have n3_ := Aside0.mk ((by rw [hg]; exact (below_size bB0) : w.heap.size ≤ gb877)); clear HB; have HB := n0_; have BK877 := n1_; have GW877 := n2_; have GE877 := n3_; clear n0_ n1_ n2_ n3_; clear hb hbox hg; have hcz6_0 : w5.cell? ⟨gb877, 0, none⟩ = some (.string a0_0) := (blk_cell BK877.out 0).trans rfl; have hcz6_1 : w5.cell? ⟨gb877, 1, none⟩ = some (.int .i64 a0_1) := (blk_cell BK877.out 1).trans rfl; have hcz6_2 : w5.cell? ⟨gb877, 2, none⟩ = some (.int .i64 a0_2) := (blk_cell BK877.out 2).trans rfl; have hcz6_3 : w5.cell? ⟨gb877, 3, none⟩ = some (.string a0_3) := (blk_cell BK877.out 3).trans rfl; have hfz6_0 := blk_frozen BK877.out 0; have hfz6_1 := blk_frozen BK877.out 1; have hfz6_2 := blk_frozen BK877.out 2; have hfz6_3 := blk_frozen BK877.out 3) | ((with_reducible refine gate_callee (f := 22) rfl ?_); refine goesL_ (some 9) rfl rfl Try.func22 (by kernel_rfl) rfl #[.string a0_0, .bool true] rfl aG ?_; (with_reducible refine (constableref01_Word.calls k a0_0 true true _ A3.out).mono ?_); rintro e w' ⟨rfl, ⟨nd, rfl⟩⟩; refine ⟨_, rfl, ?_⟩))
   go_ret
   exact ⟨eW, (bB1 GE877.out)⟩
  ·replace c4 := Bool.eq_false_iff.mpr c4
   subst c4
   have H1 : (some false) = some r := by rw [if_neg (show ¬ (false = true) by decide)] at H; exact H
   clear H
   have H := H1
   clear H1
   obtain rfl := Option.some.inj H
   go_enter Try.func86, Try.ntmps86
   go_wp2_with (first | ((with_reducible refine gate_dst (N := 1) rfl ?_); refine bE (N := 1) (cs := #[.string a0_0, .int .i64 a0_1, .int .i64 a0_2, .string a0_3]) (t := 77) ?_; intro gb877 hg w7 hbox hb; have n0_ := Aside0.mk (below_step bB0 hb); have n1_ := Aside0.mk (hbox); have n2_ := Aside0.mk ((by rw [hg]; exact (below_size bB0) : w.heap.size ≤ gb877)); have n3_ := Aside0.mk ((by rw [hg]; exact (below_size bB0) : w.heap.size ≤ gb877)); clear HB; have HB := n0_; have BK877 := n1_; have GW877 := n2_; have GE877 := n3_; clear n0_ n1_ n2_ n3_; clear hb hbox hg; have hcz8_0 : w7.cell? ⟨gb877, 0, none⟩ = some (.string a0_0) := (blk_cell BK877.out 0).trans rfl; have hcz8_1 : w7.cell? ⟨gb877, 1, none⟩ = some (.int .i64 a0_1) := (blk_cell BK877.out 1).trans rfl; have hcz8_2 : w7.cell? ⟨gb877, 2, none⟩ = some (.int .i64 a0_2) := (blk_cell BK877.out 2).trans rfl; have hcz8_3 : w7.cell? ⟨gb877, 3, none⟩ = some (.string a0_3) := (blk_cell BK877.out 3).trans rfl; have hfz8_0 := blk_frozen BK877.out 0; have hfz8_1 := blk_frozen BK877.out 1; have hfz8_2 := blk_frozen BK877.out 2; have hfz8_3 := blk_frozen BK877.out 3) | ((with_reducible refine gate_callee (f := 22) rfl ?_); refine goesL_ (some 9) rfl rfl Try.func22 (by kernel_rfl) rfl #[.string a0_0, .bool true] rfl aG ?_; (with_reducible refine (constableref01_Word.calls k a0_0 true false _ A3.out).mono ?_); rintro e w' ⟨rfl, ⟨nd, rfl⟩⟩; refine ⟨_, rfl, ?_⟩))
   go_ret
   exact ⟨eW, (bB1 GE877.out)⟩
 ·rw [if_neg c2] at H
  have c2b0 : decide (0 < (a0_0.size : Int)) = false := decide_eq_false c2
  have c2b1 : decide (0 < a0_0.size) = false := decide_eq_false (by omega)
  clear c2
  replace H := Option.bind_eq_some_iff.mp H
  obtain ⟨t879, A90, H⟩ := H
  replace H : (some t879) = some r := H
  have A9 := Aside0.mk A90
  clear A90
  obtain rfl := Option.some.inj H
  go_enter Try.func86, Try.ntmps86
  go_wp2_with (first | ((with_reducible refine gate_dst (N := 1) rfl ?_); refine bE (N := 1) (cs := #[.string a0_0, .int .i64 a0_1, .int .i64 a0_2, .string a0_3]) (t := 77) ?_; intro gb877 hg w10 hbox hb; have n0_ := Aside0.mk (below_step bB0 hb); have n1_ := Aside0.mk (hbox); have n2_ := Aside0.mk ((by rw [hg]; exact (below_size bB0) : w.heap.size ≤ gb877)); have n3_ := Aside0.mk ((by rw [hg]; exact (below_size bB0) : w.heap.size ≤ gb877)); clear HB; have HB := n0_; have BK877 := n1_; have GW877 := n2_; have GE877 := n3_; clear n0_ n1_ n2_ n3_; clear hb hbox hg; have hcz11_0 : w10.cell? ⟨gb877, 0, none⟩ = some (.string a0_0) := (blk_cell BK877.out 0).trans rfl; have hcz11_1 : w10.cell? ⟨gb877, 1, none⟩ = some (.int .i64 a0_1) := (blk_cell BK877.out 1).trans rfl; have hcz11_2 : w10.cell? ⟨gb877, 2, none⟩ = some (.int .i64 a0_2) := (blk_cell BK877.out 2).trans rfl; have hcz11_3 : w10.cell? ⟨gb877, 3, none⟩ = some (.string a0_3) := (blk_cell BK877.out 3).trans rfl; have hfz11_0 := blk_frozen BK877.out 0; have hfz11_1 := blk_frozen BK877.out 1; have hfz11_2 := blk_frozen BK877.out 2; have hfz11_3 := blk_frozen BK877.out 3) | ((with_reducible refine gate_callee (f := 26) rfl ?_); refine goesL_ (some 18) rfl rfl Try.func26 (by kernel_rfl) rfl #[.agg #[.int .i64 a0_1, .int .i64 a0_2, .string a0_3]] rfl aG ?_; (with_reducible refine (constableref01_Value.calls k a0_1 a0_2 a0_3 t879 _ A9.out).mono ?_); rintro e w12 ⟨rfl, hb⟩; refine ⟨_, rfl, ?_⟩; have n0_ := Aside0.mk (blk_below (g := gb877) (o := .cells #[.string a0_0, .int .i64 a0_1, .int .i64 a0_2, .string a0_3] 77 (0, 0)) (by refine bk ?_; exact BK877.out) hb); have n1_ := Aside0.mk (below_step (bB1 GE877.out) hb); clear BK877; clear HB; have BK877 := n0_; have HB := n1_; clear n0_ n1_; (try clear hb); (try clear hb2); (try clear hk); (try clear hi)))
  go_ret
  exact ⟨eW, (bB1 GE877.out)⟩

end Go.Proofs.Ytghommaokdhjmaa.P
namespace Go.Proofs.Ytghommaokdhjmaa.P
open Go.RowKit Go.Proofs.YtghommaokdhjmaaW.PrintWords Go.Proofs.YtghommaokdhjmaaW.PrintLast Go.Proofs.Ytghommaokdhjmaa.Gate
set_option linter.unusedVariables false
set_option linter.unusedSimpArgs false

/-! ### constableref01_Atom: function 54 -/
mutual
def constableref01_Atom.j0 : Nat → Bool → ByteArray → List (S77) → Option (Bool)
 | 0, _, _, _ => none
 | k + 1, x13, x881000, x881001 => if x13 = true then (some false) else (constableref01_Atom.l0 k 0 x881000 x881001)
def constableref01_Atom.l0 : Nat → Int → ByteArray → List (S77) → Option (Bool)
 | 0, _, _, _ => none
 | k + 1, x3, x881000, x881001 => if x3 < (x881001.length : Int) then (if 0 ≤ x3 then ((constableref01_Term.f k ((rd_T77 x881001 x3).f0) ((rd_T77 x881001 x3).f1.f0) ((rd_T77 x881001 x3).f1.f1) ((rd_T77 x881001 x3).f1.f2)).bind fun t883 => (if t883 = true then (constableref01_Atom.l0 k (wrap64 (x3 + 1)) x881000 x881001) else (some false))) else (none)) else (some true)
end
def constableref01_Atom.f (k : Nat) (a0_0 : ByteArray) (l0_1 : List (S77)) : Option (Bool) := (constableref01_Name.f k a0_0).bind fun t881 => (if t881 = true then (constableref01_Atom.j0 k (decide ((l0_1.length : Int) > 5)) a0_0 l0_1) else (constableref01_Atom.j0 k true a0_0 l0_1))
theorem constableref01_Atom.mono_l : ∀ k, (∀ y0 y1 y2, LeO (constableref01_Atom.j0 k y0 y1 y2) (constableref01_Atom.j0 (k + 1) y0 y1 y2)) ∧ (∀ y0 y1 y2, LeO (constableref01_Atom.l0 k y0 y1 y2) (constableref01_Atom.l0 (k + 1) y0 y1 y2))
 | 0 => ⟨fun _ _ _ r h => by simp [constableref01_Atom.j0] at h, fun _ _ _ r h => by simp [constableref01_Atom.l0] at h⟩
 | k + 1 => by
  obtain ⟨ih0, ih1⟩ := constableref01_Atom.mono_l k
  refine ⟨?_, ?_⟩
  ·intro y0 y1 y2
   unfold constableref01_Atom.j0
   repeat' first
   | (with_reducible exact ih0 _ _ _)
   | (with_reducible exact ih1 _ _ _)
   | (with_reducible exact constableref01_Name.mono _ _)
   | (with_reducible exact constableref01_Term.mono _ _ _ _ _)
   | (with_reducible exact LeO.refl _)
   | (with_reducible exact LeO.none _)
   | (with_reducible refine LeO.ite ?_ ?_)
   | (with_reducible refine LeO.bind ?_ (fun _ => ?_))
  ·intro y0 y1 y2
   unfold constableref01_Atom.l0
   repeat' first
   | (with_reducible exact ih0 _ _ _)
   | (with_reducible exact ih1 _ _ _)
   | (with_reducible exact constableref01_Name.mono _ _)
   | (with_reducible exact constableref01_Term.mono _ _ _ _ _)
   | (with_reducible exact LeO.refl _)
   | (with_reducible exact LeO.none _)
   | (with_reducible refine LeO.ite ?_ ?_)
   | (with_reducible refine LeO.bind ?_ (fun _ => ?_))
theorem constableref01_Atom.mono : ∀ a0 a1 k, LeO (constableref01_Atom.f k a0 a1) (constableref01_Atom.f (k + 1) a0 a1) := by
 intro a0 a1 k
 obtain ⟨ih0, ih1⟩ := constableref01_Atom.mono_l k
 unfold constableref01_Atom.f
 repeat' first
   | (with_reducible exact ih0 _ _ _)
   | (with_reducible exact ih1 _ _ _)
   | (with_reducible exact constableref01_Name.mono _ _)
   | (with_reducible exact constableref01_Term.mono _ _ _ _ _)
   | (with_reducible exact LeO.refl _)
   | (with_reducible exact LeO.none _)
   | (with_reducible refine LeO.ite ?_ ?_)
   | (with_reducible refine LeO.bind ?_ (fun _ => ?_))
set_option maxHeartbeats 8000000 in
set_option maxRecDepth 100000 in
theorem constableref01_Atom.calls (k : Nat) (a0_0 : ByteArray) (A0_1 : Option Addr) (c0_1 : Nat) (l0_1 : List (S77)) (r : Bool) (w : World) (hr0_1 : Kd.C k77 w A0_1 l0_1.length l0_1) (hc0_1 : l0_1.length ≤ c0_1) (h : constableref01_Atom.f k a0_0 l0_1 = some r) :
  Calls Try.prog 54 #[.agg #[.string a0_0, .slice A0_1 l0_1.length c0_1]] w fun e w' => e = .returned (.bool r) ∧ Below w.heap.size w w' := by
 have hu69 := Try.underlying69
 have hu77 := Try.underlying77
 have HR0_1 := Aside0.mk hr0_1
 have HC0_1 := Aside0.mk hc0_1
 clear hr0_1 hc0_1
 have HB := Aside0.mk (Below.refl w.heap.size w)
 have H : ((constableref01_Name.f k a0_0).bind fun t881 => (if t881 = true then (constableref01_Atom.j0 k (decide ((l0_1.length : Int) > 5)) a0_0 l0_1) else (constableref01_Atom.j0 k true a0_0 l0_1))) = some r := h
 clear h
 have HC2 := Aside0.mk H
 clear H
 go_enter Try.func54, Try.ntmps54
 go_upto_region 1 with (first | ((with_reducible refine gate_dst (N := 1) rfl ?_); (try (refine gate_guard (by rfl) ?_; dsimp only)); refine bE (N := 1) (cs := #[.string a0_0, .slice A0_1 l0_1.length c0_1]) (t := 69) ?_; intro gb880 hg w3 hbox hb; have n0_ := Aside0.mk (below_step bB0 hb); have n1_ := Aside0.mk (hbox); have n2_ := Aside0.mk ((by rw [hg]; exact (below_size bB0) : w.heap.size ≤ gb880)); have n3_ := Aside0.mk ((by rw [hg]; exact (below_size bB0) : w.heap.size ≤ gb880)); clear HB; have HB := n0_; have BK880 := n1_; have GW880 := n2_; have GE880 := n3_; clear n0_ n1_ n2_ n3_; clear hb hbox hg))
 (try simp only [Act.put, List.setIfInBounds_toArray, List.set_cons_zero, List.set_cons_succ])
 go_cut [13] (fun v13 wc => ∃ (kq : Nat) (x13_1 : Bool), v13 = .bool x13_1 ∧ Aside0 (constableref01_Atom.j0 kq x13_1 a0_0 l0_1 = some r) ∧ Aside0 (kq ≤ k) ∧ Aside0 (wc.heap[gb880]? = some (.cells #[.string a0_0, (.slice A0_1 l0_1.length c0_1)] 69 (0, 0))) ∧ Aside0 (Below w.heap.size w wc))
 case first =>
  have H := HC2.out
  clear HC2
  replace H := Option.bind_eq_some_iff.mp H
  obtain ⟨t881, A40, H⟩ := H
  replace H : (if t881 = true then (constableref01_Atom.j0 k (decide ((l0_1.length : Int) > 5)) a0_0 l0_1) else (constableref01_Atom.j0 k true a0_0 l0_1)) = some r := H
  have A4 := Aside0.mk A40
  clear A40
  by_cases c5 : t881 = true
  ·subst c5
   have H1 : (constableref01_Atom.j0 k (decide ((l0_1.length : Int) > 5)) a0_0 l0_1) = some r := by rw [if_pos rfl] at H; exact H
   clear H
   have H := H1
   clear H1
   have H' := Aside0.mk H
   clear H
   have hcz6_0 : w3.cell? ⟨gb880, 0, none⟩ = some (.string a0_0) := (blk_cell BK880.out 0).trans rfl
   have hcz6_1 : w3.cell? ⟨gb880, 1, none⟩ = some (.slice A0_1 l0_1.length c0_1) := (blk_cell BK880.out 1).trans rfl
   have hfz6_0 := blk_frozen BK880.out 0
   have hfz6_1 := blk_frozen BK880.out 1
   go_wp2_with (first | ((with_reducible refine gate_callee (f := 74) rfl ?_); refine goesL_ (some 6) rfl rfl Try.func74 (by kernel_rfl) rfl #[.string a0_0] rfl aG ?_; (with_reducible refine (constableref01_Name.calls k a0_0 true _ A4.out).mono ?_); rintro e w7 ⟨rfl, hb⟩; refine ⟨_, rfl, ?_⟩; have n0_ := Aside0.mk (blk_below (g := gb880) (o := .cells #[.string a0_0, .slice A0_1 l0_1.length c0_1] 69 (0, 0)) (by refine bk ?_; exact BK880.out) hb); have n1_ := Aside0.mk (below_step (bB1 GE880.out) hb); clear BK880; clear HB; have BK880 := n0_; have HB := n1_; clear n0_ n1_; (try clear hb); (try clear hb2); (try clear hk); (try clear hi); have hcz8_0 : w7.cell? ⟨gb880, 0, none⟩ = some (.string a0_0) := (blk_cell BK880.out 0).trans rfl; have hcz8_1 : w7.cell? ⟨gb880, 1, none⟩ = some (.slice A0_1 l0_1.length c0_1) := (blk_cell BK880.out 1).trans rfl; have hfz8_0 := blk_frozen BK880.out 0; have hfz8_1 := blk_frozen BK880.out 1))
   go_meet
   case rel => exact ⟨_, (decide ((l0_1.length : Int) > 5)), (by first | rfl | (simp; done) | (simp [*]; done)), H', ⟨by first | omega | exact Nat.le_refl _⟩, ⟨by refine bk ?_; exact BK880.out⟩, ⟨(bB1 GE880.out)⟩⟩
  ·replace c5 := Bool.eq_false_iff.mpr c5
   subst c5
   have H1 : (constableref01_Atom.j0 k true a0_0 l0_1) = some r := by rw [if_neg (show ¬ (false = true) by decide)] at H; exact H
   clear H
   have H := H1
   clear H1
   have H' := Aside0.mk H
   clear H
   have hcz9_0 : w3.cell? ⟨gb880, 0, none⟩ = some (.string a0_0) := (blk_cell BK880.out 0).trans rfl
   have hcz9_1 : w3.cell? ⟨gb880, 1, none⟩ = some (.slice A0_1 l0_1.length c0_1) := (blk_cell BK880.out 1).trans rfl
   have hfz9_0 := blk_frozen BK880.out 0
   have hfz9_1 := blk_frozen BK880.out 1
   go_wp2_with (first | ((with_reducible refine gate_callee (f := 74) rfl ?_); refine goesL_ (some 6) rfl rfl Try.func74 (by kernel_rfl) rfl #[.string a0_0] rfl aG ?_; (with_reducible refine (constableref01_Name.calls k a0_0 false _ A4.out).mono ?_); rintro e w10 ⟨rfl, hb⟩; refine ⟨_, rfl, ?_⟩; have n0_ := Aside0.mk (blk_below (g := gb880) (o := .cells #[.string a0_0, .slice A0_1 l0_1.length c0_1] 69 (0, 0)) (by refine bk ?_; exact BK880.out) hb); have n1_ := Aside0.mk (below_step (bB1 GE880.out) hb); clear BK880; clear HB; have BK880 := n0_; have HB := n1_; clear n0_ n1_; (try clear hb); (try clear hb2); (try clear hk); (try clear hi)))
   go_meet
   case rel => exact ⟨_, (true), (by first | rfl | (simp; done) | (simp [*]; done)), H', ⟨by first | omega | exact Nat.le_refl _⟩, ⟨by refine bk ?_; exact BK880.out⟩, ⟨(bB1 GE880.out)⟩⟩
 case rest =>
  clear HC2
  (try clear p2); (try clear c5); (try clear c7); (try clear hcz6_0); (try clear hcz6_1); (try clear hcz8_0); (try clear hcz8_1); (try clear hcz9_0); (try clear hcz9_1); (try clear hfz6_0); (try clear hfz6_1); (try clear hfz8_0); (try clear hfz8_1); (try clear hfz9_0); (try clear hfz9_1)
  obtain ⟨kq, x13_1, rfl, HA, HJ1, BK880, HB⟩ := hcut
  cases kq with
  | zero => exact absurd HA.out (by simp [constableref01_Atom.j0])
  | succ kj1 =>
   have H := HA.out
   clear HA
   simp only [constableref01_Atom.j0] at H
   by_cases c11 : x13_1 = true
   ·subst c11
    have H1 : (some false) = some r := by rw [if_pos rfl] at H; exact H
    clear H
    have H := H1
    clear H1
    obtain rfl := Option.some.inj H
    go_wp2
    go_ret
    exact ⟨eW, (bB1 GE880.out)⟩
   ·replace c11 := Bool.eq_false_iff.mpr c11
    subst c11
    have H1 : (constableref01_Atom.l0 kj1 0 a0_0 l0_1) = some r := by rw [if_neg (show ¬ (false = true) by decide)] at H; exact H
    clear H
    have H := H1
    clear H1
    have H' := Aside0.mk H
    clear H
    go_wp2
    go_loopg [3] kj1 (fun kq v3 w' => ∃ (x3_2 : Int), v3 = .int .i64 x3_2 ∧ Aside0 (constableref01_Atom.l0 kq x3_2 a0_0 l0_1 = some r) ∧ Aside0 (kq ≤ kj1) ∧ Aside0 (w'.heap[gb880]? = some (.cells #[.string a0_0, (.slice A0_1 l0_1.length c0_1)] 69 (0, 0))) ∧ Aside0 (Below w.heap.size w w'))
    case atStart => exact ⟨(0), (by first | rfl | (simp; done) | (simp [*]; done)), H', ⟨Nat.le_refl _⟩, ⟨by refine bk ?_; exact BK880.out⟩, ⟨(bB1 GE880.out)⟩⟩
    case round =>
     clear H'
     (try clear c1); (try clear p2); (try clear c5); (try clear c7); (try clear c11); (try clear hcz6_0); (try clear hcz6_1); (try clear hcz8_0); (try clear hcz8_1); (try clear hcz9_0); (try clear hcz9_1); (try clear hfz6_0); (try clear hfz6_1); (try clear hfz8_0); (try clear hfz8_1); (try clear hfz9_0); (try clear hfz9_1); (try clear p2)
     obtain ⟨x3_2, rfl, HA, HK2, BK880, HB⟩ := hrel
     cases gk with
     | zero => exact absurd HA.out (by simp [constableref01_Atom.l0])
     | succ k2 =>
      have H := HA.out
      clear HA
      simp only [constableref01_Atom.l0] at H
      by_cases c12 : x3_2 < (l0_1.length : Int)
      ·rw [if_pos c12] at H
       have c12b0 : decide (x3_2 < (l0_1.length : Int)) = true := decide_eq_true c12
       clear c12
       by_cases c13 : 0 ≤ x3_2
       ·rw [if_pos c13] at H
        have c13b0 : decide (0 ≤ x3_2) = true := decide_eq_true c13
        clear c13
        replace H := Option.bind_eq_some_iff.mp H
        obtain ⟨t883, A140, H⟩ := H
        replace H : (if t883 = true then (constableref01_Atom.l0 k2 (wrap64 (x3_2 + 1)) a0_0 l0_1) else (some false)) = some r := H
        have A14 := Aside0.mk A140
        clear A140
        by_cases c15 : t883 = true
        ·subst c15
         have H1 : (constableref01_Atom.l0 k2 (wrap64 (x3_2 + 1)) a0_0 l0_1) = some r := by rw [if_pos rfl] at H; exact H
         clear H
         have H := H1
         clear H1
         have H' := Aside0.mk H
         clear H
         have hcz16_0 : wr.cell? ⟨gb880, 0, none⟩ = some (.string a0_0) := (blk_cell BK880.out 0).trans rfl
         have hcz16_1 : wr.cell? ⟨gb880, 1, none⟩ = some (.slice A0_1 l0_1.length c0_1) := (blk_cell BK880.out 1).trans rfl
         have hfz16_0 := blk_frozen BK880.out 0
         have hfz16_1 := blk_frozen BK880.out 1
         have p882 : 0 ≤ (x3_2 : Int) := of_decide_eq_true (by first | (with_reducible assumption) | assumption)
         have q882 : x3_2 < (l0_1.length : Int) := of_decide_eq_true (by first | (with_reducible assumption) | assumption)
         obtain ⟨ad882, e882, hx882_0, hx882_1, hx882_2, hx882_3⟩ := at_T77 HR0_1.out x3_2 p882 q882
         cases e882
         replace hx882_0 := (HB.out.cell (World.block_lt_of_cell? w _ hx882_0)).trans hx882_0
         replace hx882_1 := (HB.out.cell (World.block_lt_of_cell? w _ hx882_1)).trans hx882_1
         replace hx882_2 := (HB.out.cell (World.block_lt_of_cell? w _ hx882_2)).trans hx882_2
         replace hx882_3 := (HB.out.cell (World.block_lt_of_cell? w _ hx882_3)).trans hx882_3
         replace p882 := eq_true p882
         replace q882 := eq_true q882
         go_wp2_with (first | ((with_reducible refine gate_callee (f := 86) rfl ?_); refine goesL_ (some 26) rfl rfl Try.func86 (by kernel_rfl) rfl #[.agg #[.string ((rd_T77 l0_1 x3_2).f0), .int .i64 ((rd_T77 l0_1 x3_2).f1.f0), .int .i64 ((rd_T77 l0_1 x3_2).f1.f1), .string ((rd_T77 l0_1 x3_2).f1.f2)]] rfl aG ?_; (with_reducible refine (constableref01_Term.calls k2 ((rd_T77 l0_1 x3_2).f0) ((rd_T77 l0_1 x3_2).f1.f0) ((rd_T77 l0_1 x3_2).f1.f1) ((rd_T77 l0_1 x3_2).f1.f2) true _ A14.out).mono ?_); rintro e w17 ⟨rfl, hb⟩; refine ⟨_, rfl, ?_⟩; have n0_ := Aside0.mk (blk_below (g := gb880) (o := .cells #[.string a0_0, .slice (some ad882) l0_1.length c0_1] 69 (0, 0)) (by refine bk ?_; exact BK880.out) hb); have n1_ := Aside0.mk (below_step (bB1 GE880.out) hb); clear BK880; clear HB; have BK880 := n0_; have HB := n1_; clear n0_ n1_; (try clear hb); (try clear hb2); (try clear hk); (try clear hi)))
         go_roundg k2
         case measure => have := HJ1.out; have := HK2.out; omega
         case rel => exact ⟨(wrap64 (x3_2 + 1)), (by first | rfl | (simp; done) | (simp [*]; done)), H', ⟨by have := HJ1.out; have := HK2.out; omega⟩, ⟨by refine bk ?_; exact BK880.out⟩, ⟨(bB1 GE880.out)⟩⟩
        ·replace c15 := Bool.eq_false_iff.mpr c15
         subst c15
         have H1 : (some false) = some r := by rw [if_neg (show ¬ (false = true) by decide)] at H; exact H
         clear H
         have H := H1
         clear H1
         obtain rfl := Option.some.inj H
         have hcz18_0 : wr.cell? ⟨gb880, 0, none⟩ = some (.string a0_0) := (blk_cell BK880.out 0).trans rfl
         have hcz18_1 : wr.cell? ⟨gb880, 1, none⟩ = some (.slice A0_1 l0_1.length c0_1) := (blk_cell BK880.out 1).trans rfl
         have hfz18_0 := blk_frozen BK880.out 0
         have hfz18_1 := blk_frozen BK880.out 1
         have p882 : 0 ≤ (x3_2 : Int) := of_decide_eq_true (by first | (with_reducible assumption) | assumption)
         have q882 : x3_2 < (l0_1.length : Int) := of_decide_eq_true (by first | (with_reducible assumption) | assumption)
         obtain ⟨ad882, e882, hx882_0, hx882_1, hx882_2, hx882_3⟩ := at_T77 HR0_1.out x3_2 p882 q882
         cases e882
         replace hx882_0 := (HB.out.cell (World.block_lt_of_cell? w _ hx882_0)).trans hx882_0
         replace hx882_1 := (HB.out.cell (World.block_lt_of_cell? w _ hx882_1)).trans hx882_1
         replace hx882_2 := (HB.out.cell (World.block_lt_of_cell? w _ hx882_2)).trans hx882_2
         replace hx882_3 := (HB.out.cell (World.block_lt_of_cell? w _ hx882_3)).trans hx882_3
         replace p882 := eq_true p882
         replace q882 := eq_true q882
         go_wp2_with (first | ((with_reducible refine gate_callee (f := 86) rfl ?_); refine goesL_ (some 26) rfl rfl Try.func86 (by kernel_rfl) rfl #[.agg #[.string ((rd_T77 l0_1 x3_2).f0), .int .i64 ((rd_T77 l0_1 x3_2).f1.f0), .int .i64 ((rd_T77 l0_1 x3_2).f1.f1), .string ((rd_T77 l0_1 x3_2).f1.f2)]] rfl aG ?_; (with_reducible refine (constableref01_Term.calls k2 ((rd_T77 l0_1 x3_2).f0) ((rd_T77 l0_1 x3_2).f1.f0) ((rd_T77 l0_1 x3_2).f1.f1) ((rd_T77 l0_1 x3_2).f1.f2) false _ A14.out).mono ?_); rintro e w19 ⟨rfl, hb⟩; refine ⟨_, rfl, ?_⟩; have n0_ := Aside0.mk (blk_below (g := gb880) (o := .cells #[.string a0_0, .slice (some ad882) l0_1.length c0_1] 69 (0, 0)) (by refine bk ?_; exact BK880.out) hb); have n1_ := Aside0.mk (below_step (bB1 GE880.out) hb); clear BK880; clear HB; have BK880 := n0_; have HB := n1_; clear n0_ n1_; (try clear hb); (try clear hb2); (try clear hk); (try clear hi)))
         go_ret
         exact ⟨eW, (bB1 GE880.out)⟩
       ·rw [if_neg c13] at H
        exact absurd H (by simp)
      ·rw [if_neg c12] at H
       have c12b0 : decide (x3_2 < (l0_1.length : Int)) = false := decide_eq_false c12
       clear c12
       obtain rfl := Option.some.inj H
       have hcz20_0 : wr.cell? ⟨gb880, 0, none⟩ = some (.string a0_0) := (blk_cell BK880.out 0).trans rfl
       have hcz20_1 : wr.cell? ⟨gb880, 1, none⟩ = some (.slice A0_1 l0_1.length c0_1) := (blk_cell BK880.out 1).trans rfl
       have hfz20_0 := blk_frozen BK880.out 0
       have hfz20_1 := blk_frozen BK880.out 1
       go_wp2
       go_ret
       exact ⟨eW, (bB1 GE880.out)⟩

end Go.Proofs.Ytghommaokdhjmaa.P
/- The references' names, facts, terms and atoms answer what the plain forms say; texts no longer than a million bytes. -/
set_option linter.unusedVariables false
set_option linter.unusedSimpArgs false
namespace Go.Proofs.Ytghommaokdhjmaa.SpecM
open Go.Shelf Go.RowKit Go.Lib Go.Sort Go.Proofs.SymP Go.Proofs.YtghommaokdhjmaaW.PrintWords Go.Proofs.YtghommaokdhjmaaW.PrintLast Go.Proofs.Ytghommaokdhjmaa.Gate Go.Proofs.Ytghommaokdhjmaa.P Go.Proofs.Ytghommaokdhjmaa.Str Go.Proofs.Ytghommaokdhjmaa.PSpec Go.Proofs.Ytghommaokdhjmaa.BothB Go.Proofs.Ytghommaokdhjmaa.FactC
open Go.Proofs.Ytghommaokdhjmaa.SpecB hiding tl_iff ff
theorem rname_loop (s : ByteArray) (l : List ByteArray) (hl : l.length ≤ 1000000) : ∀ (m i : Nat), i + m = l.length → Ev (fun k => constableref01_Name.l0 k s l i) (!(l.drop i).any fun x => decide (s = x)) := by
  intro m
  induction m with
  | zero =>
    intro i h
    refine Ev.step (fun k => by rw [constableref01_Name.l0, if_neg (by omega)]) ?_
    rw [List.drop_eq_nil_of_le (by omega)]
    exact Ev.now _
  | succ m ih =>
    intro i h
    have hi : i < l.length := by omega
    have hrd : rdOf ByteArray.empty l (i : Int) = l[i] := by
      unfold rdOf
      rw [Int.toNat_natCast, List.getD_eq_getElem?_getD, List.getElem?_eq_getElem hi]; rfl
    refine Ev.step (fun k => by rw [constableref01_Name.l0, if_pos (by omega), if_pos (by omega), hrd, w64 hl hi]) ?_
    rw [List.drop_eq_getElem_cons hi, List.any_cons]
    by_cases e : s = l[i]
    · simp only [if_pos ((tl_iff _ _).2 e.symm), decide_eq_true e, Bool.true_or, Bool.not_true]; exact Ev.now _
    · simp only [if_neg (fun h => e ((tl_iff _ _).1 h).symm), decide_eq_false e, Bool.false_or]; exact ih (i + 1) (by omega)
theorem ev_rname (s : ByteArray) (hs : s.size ≤ 1000000) : Ev (fun k => constableref01_Name.f k s) (nameP s) := by
  have hw := ev_word s hs false
  rw [word_sym] at hw
  unfold constableref01_Name.f nameP
  have hv : (valP 2 0 s == 0) = symP s := by
    unfold valP
    rw [if_neg (by decide), if_pos rfl, if_pos rfl]
    cases symP s <;> rfl
  rw [hv]
  refine Ev.bind hw ?_
  cases symP s
  · simp only [Bool.false_eq_true, if_false, Bool.false_and]; exact Ev.now _
  · simp only [if_true, Bool.true_and]
    unfold constableref01_words.f
    simp only [Option.bind_some]
    exact rname_loop s wordsL (by decide) wordsL.length 0 (by decide)
theorem rfact_loop (vs : List S24) (nm : ByteArray) (fv : fitV vs = true) (hl : vs.length ≤ 1000000) : ∀ (m i : Nat), i + m = vs.length → Ev (fun k => constableref01_Fact.l0 k i nm vs) ((vs.drop i).all fun v => valP v.f0 v.f1 v.f2 == 0) := by
  intro m
  induction m with
  | zero =>
    intro i h
    refine Ev.step (fun k => by rw [constableref01_Fact.l0, if_neg (by omega)]) ?_
    rw [List.drop_eq_nil_of_le (by omega)]
    exact Ev.now _
  | succ m ih =>
    intro i h
    have hi : i < vs.length := by omega
    refine Ev.step (fun k => by rw [constableref01_Fact.l0, if_pos (by omega), if_pos (by omega), rdV_get hi, w64 hl hi]) ?_
    rw [List.drop_eq_getElem_cons hi, List.all_cons]
    refine Ev.bind (ev_value vs[i].f0 vs[i].f1 vs[i].f2 (fitV_mem.1 fv _ (List.getElem_mem hi))) ?_
    cases (valP vs[i].f0 vs[i].f1 vs[i].f2 == 0)
    · simp only [Bool.false_eq_true, if_false, Bool.false_and]; exact Ev.now _
    · simp only [if_true, Bool.true_and]; exact ih (i + 1) (by omega)
theorem ev_rfact {a : ByteArray} {vs : List S24} (ha : a.size ≤ 1000000) (fv : fitV vs = true) : Ev (fun k => constableref01_Fact.f k a vs) (decide (factP a vs = 0)) := by
  have jt : Ev (fun k => constableref01_Fact.j0 k true a vs) false := Ev.step (fun k => by rw [constableref01_Fact.j0, if_pos rfl]) (Ev.now _)
  unfold constableref01_Fact.f
  refine Ev.bind (ev_rname a ha) ?_
  by_cases h1 : nameP a = true
  · simp only [if_pos h1]
    by_cases h2 : vs.length ≤ 5
    · rw [decide_eq_false (show ¬ (vs.length : Int) > 5 by omega)]
      refine Ev.step (fun k => by rw [constableref01_Fact.j0, if_neg (by decide)]) ?_
      have := rfact_loop vs a fv (by omega) vs.length 0 (by omega)
      rw [List.drop_zero] at this
      have e : decide (factP a vs = 0) = vs.all fun v => valP v.f0 v.f1 v.f2 == 0 := by
        rw [Bool.eq_iff_iff, decide_eq_true_eq, fact_zero, List.all_eq_true]
        simp only [beq_iff_eq]
        exact ⟨fun h => h.2.2, fun h => ⟨h1, h2, h⟩⟩
      rw [e]; exact this
    · rw [decide_eq_true (show (vs.length : Int) > 5 by omega), decide_eq_false (fun h => h2 (fact_zero.1 h).2.1)]
      exact jt
  · simp only [if_neg h1]
    rw [decide_eq_false (fun h => h1 (fact_zero.1 h).1)]
    exact jt
theorem ev_rterm (t : S77) (h1 : t.f0.size ≤ 1000000) (h2 : t.f1.f2.size ≤ 1000000) : Ev (fun k => constableref01_Term.f k t.f0 t.f1.f0 t.f1.f1 t.f1.f2) (termP t) := by
  unfold constableref01_Term.f termP
  by_cases hc : t.f0.toList = ([] : List UInt8)
  · have hz : t.f0.size = 0 := (con_size t).1 hc
    simp only [if_pos hc, if_neg (show ¬ (t.f0.size : Int) > 0 by omega)]
    exact Ev.bind (ev_value _ _ _ h2) (Ev.now _)
  · have hz : t.f0.size ≠ 0 := fun h => hc ((con_size t).2 h)
    simp only [if_neg hc, if_pos (show (t.f0.size : Int) > 0 by omega)]
    have hw := ev_word t.f0 h1 true
    rw [word_var] at hw
    refine Ev.bind hw ?_
    cases varP t.f0
    · simp only [Bool.false_eq_true, if_false, Bool.false_and]; exact Ev.now _
    · simp only [if_true, Bool.true_and]; exact Ev.now _
theorem ratom_loop (ts : List S77) (nm : ByteArray) (ft : fitT ts = true) (hl : ts.length ≤ 1000000) : ∀ (m i : Nat), i + m = ts.length → Ev (fun k => constableref01_Atom.l0 k i nm ts) ((ts.drop i).all termP) := by
  intro m
  induction m with
  | zero =>
    intro i h
    refine Ev.step (fun k => by rw [constableref01_Atom.l0, if_neg (by omega)]) ?_
    rw [List.drop_eq_nil_of_le (by omega)]
    exact Ev.now _
  | succ m ih =>
    intro i h
    have hi : i < ts.length := by omega
    have hf := fitT_mem.1 ft _ (List.getElem_mem hi)
    refine Ev.step (fun k => by rw [constableref01_Atom.l0, if_pos (by omega), if_pos (by omega), rdT_get hi, w64 hl hi]) ?_
    rw [List.drop_eq_getElem_cons hi, List.all_cons]
    refine Ev.bind (ev_rterm ts[i] hf.1 hf.2) ?_
    cases termP ts[i]
    · simp only [Bool.false_eq_true, if_false, Bool.false_and]; exact Ev.now _
    · simp only [if_true, Bool.true_and]; exact ih (i + 1) (by omega)
theorem ev_ratom {a : ByteArray} {ts : List S77} (ha : a.size ≤ 1000000) (ft : fitT ts = true) : Ev (fun k => constableref01_Atom.f k a ts) (decide (matP a ts = 0)) := by
  have jt : Ev (fun k => constableref01_Atom.j0 k true a ts) false := Ev.step (fun k => by rw [constableref01_Atom.j0, if_pos rfl]) (Ev.now _)
  unfold constableref01_Atom.f
  refine Ev.bind (ev_rname a ha) ?_
  by_cases h1 : nameP a = true
  · simp only [if_pos h1]
    by_cases h2 : ts.length ≤ 5
    · rw [decide_eq_false (show ¬ (ts.length : Int) > 5 by omega)]
      refine Ev.step (fun k => by rw [constableref01_Atom.j0, if_neg (by decide)]) ?_
      have := ratom_loop ts a ft (by omega) ts.length 0 (by omega)
      rw [List.drop_zero] at this
      have e : decide (matP a ts = 0) = ts.all termP := by
        rw [Bool.eq_iff_iff, decide_eq_true_eq, mat_zero, List.all_eq_true]
        exact ⟨fun h => h.2.2, fun h => ⟨h1, h2, h⟩⟩
      rw [e]; exact this
    · rw [decide_eq_true (show (ts.length : Int) > 5 by omega), decide_eq_false (fun h => h2 (mat_zero.1 h).2.1)]
      exact jt
  · simp only [if_neg h1]
    rw [decide_eq_false (fun h => h1 (mat_zero.1 h).1)]
    exact jt
end Go.Proofs.Ytghommaokdhjmaa.SpecM
/- MatchFree's plain law: the printed function answers true from some number of rounds on; no condition. -/
set_option linter.unusedVariables false
set_option linter.unusedSimpArgs false
namespace Go.Proofs.Ytghommaokdhjmaa.Pure
open Go.RowKit Go.Proofs.YtghommaokdhjmaaW.PrintWords Go.Proofs.YtghommaokdhjmaaW.PrintLast Go.Proofs.Ytghommaokdhjmaa.Gate Go.Proofs.Ytghommaokdhjmaa.P Go.Proofs.Ytghommaokdhjmaa.PSpec Go.Proofs.Ytghommaokdhjmaa.BothB Go.Proofs.Ytghommaokdhjmaa.FactC Go.Proofs.Ytghommaokdhjmaa.SpecM
open Go.Proofs.Ytghommaokdhjmaa.SpecB hiding tl_iff ff
theorem rdS_get {l : List ByteArray} {i : Nat} (hi : i < l.length) : rdOf ByteArray.empty l i = l[i] := by
  unfold rdOf
  rw [Int.toNat_natCast, List.getD_eq_getElem?_getD, List.getElem?_eq_getElem hi]; rfl
/-- A to E. -/
def nms : List ByteArray := [⟨#[65]⟩, ⟨#[66]⟩, ⟨#[67]⟩, ⟨#[68]⟩, ⟨#[69]⟩]
theorem nms_var : ∀ i, ∀ h : i < nms.length, varP nms[i] = true := by decide +kernel
theorem nms_less : ∀ i, ∀ h : i < nms.length, ∀ j, ∀ h2 : j < nms.length, i < j → Str.cmpS nms[i] nms[j] < 0 := by decide +kernel
theorem nms_len : nms.length = 5 := rfl
theorem nms_size : ∀ i, ∀ h : i < nms.length, nms[i].size ≤ 1000000 := by
  intro i h
  have : ∀ x ∈ nms, x.size ≤ 1000000 := by decide
  exact this _ (List.getElem_mem h)
def fr (s : ByteArray) : S77 := ⟨s, ⟨0, 0, ⟨#[]⟩⟩⟩
def fx (v : S24) : S77 := ⟨⟨#[]⟩, v⟩
def bd (s : ByteArray) (v : S24) : S39 := ⟨s, v⟩
theorem free_one {a b : ByteArray} {vs ws : List S24} (h1 : factP a vs = 0) (h2 : factP b ws = 0) :
    oneP a ((nms.take vs.length).map fr) b ws [] = if a = b ∧ vs.length = ws.length then (List.zipWith bd (nms.take vs.length) ws, true) else ([], false) := by
  have z1 := fact_zero.1 h1
  have z2 := fact_zero.1 h2
  have hlen : ((nms.take vs.length).map fr).length = vs.length := by simp [nms_len]; omega
  have hm : matP a ((nms.take vs.length).map fr) = 0 := mat_zero.2 ⟨z1.1, by omega, fun t ht => by
    obtain ⟨s, hs, rfl⟩ := List.mem_map.1 ht
    obtain ⟨i, hi, rfl⟩ := List.mem_iff_getElem.1 (List.mem_of_mem_take hs)
    exact term_var (nms_var i hi)⟩
  by_cases hab : a = b ∧ vs.length = ws.length
  · rw [if_pos hab]
    have hml : (List.zipWith bd (nms.take vs.length) ws).length = vs.length := by simp [nms_len]; omega
    have hat : ∀ i (h : i < (List.zipWith bd (nms.take vs.length) ws).length), (List.zipWith bd (nms.take vs.length) ws)[i] = bd (nms[i]'(by rw [nms_len]; omega)) (ws[i]'(by omega)) := by
      intro i h
      simp
    have hR : chkP (List.zipWith bd (nms.take vs.length) ws) = 0 := by
      refine (right_iff _).2 ⟨by omega, fun x hx => ?_, List.pairwise_iff_getElem.2 fun i j hi hj hij => ?_⟩
      · obtain ⟨i, hi, rfl⟩ := List.mem_iff_getElem.1 hx
        rw [hat i hi]
        unfold rightP bd
        rw [nms_var, z2.2.2 _ (List.getElem_mem _)]; rfl
      · rw [hat i hi, hat j hj]
        exact nms_less i (by rw [nms_len]; omega) j (by rw [nms_len]; omega) hij
    refine oneP_fit hm h2 hab.1 (by omega) ⟨right_nil, hR, fun p hp hc => ?_, fun x => ?_⟩
    · obtain ⟨s, hs, hp1⟩ := List.mem_map.1 (List.of_mem_zip hp).1
      obtain ⟨i, hi, rfl⟩ := List.mem_iff_getElem.1 (List.mem_of_mem_take hs)
      have := varP_size (nms_var i hi)
      rw [← hp1] at hc
      have h0 : (fr nms[i]).f0.size = 0 := (con_size _).1 hc
      have h0' : nms[i].size = 0 := h0
      omega
    · constructor
      · intro hx
        obtain ⟨i, hi, rfl⟩ := List.mem_iff_getElem.1 hx
        refine .inr ⟨(fr (nms[i]'(by rw [nms_len]; omega)), ws[i]'(by omega)), List.mem_iff_getElem.2 ⟨i, by simp [nms_len]; omega, by simp⟩, fun hc => ?_, ?_⟩
        · have := varP_size (nms_var i (by rw [nms_len]; omega))
          have h0 : (nms[i]'(by rw [nms_len]; omega)).size = 0 := (con_size _).1 hc
          omega
        · rw [hat i hi]; rfl
      · rintro (hx | ⟨p, hp, _, rfl⟩)
        · simp at hx
        · obtain ⟨i, hi, rfl⟩ := List.mem_iff_getElem.1 hp
          have hi' : i < (List.zipWith bd (nms.take vs.length) ws).length := by simp at hi ⊢; omega
          refine List.mem_iff_getElem.2 ⟨i, hi', ?_⟩
          rw [hat i hi']
          simp [bnd, bd, fr]
  · rw [if_neg hab]
    rcases oneP_cases a ((nms.take vs.length).map fr) b ws [] with ⟨m, _, _, _, h3, h4, _⟩ | ⟨h, _⟩
    · exact absurd ⟨h3, by omega⟩ hab
    · exact h
theorem fixed_one {a b : ByteArray} {vs ws : List S24} (h1 : factP a vs = 0) (h2 : factP b ws = 0) : oneP a (vs.map fx) b ws [] = ([], decide (a = b ∧ vs = ws)) := by
  have z1 := fact_zero.1 h1
  have hm : matP a (vs.map fx) = 0 := mat_zero.2 ⟨z1.1, by simp; exact z1.2.1, fun t ht => by
    obtain ⟨v, hv, rfl⟩ := List.mem_map.1 ht
    exact term_con (z1.2.2 v hv)⟩
  have hcon : ∀ v, con (fx v) := fun v => ne_toList
  by_cases hab : a = b ∧ vs = ws
  · obtain ⟨rfl, rfl⟩ := hab
    rw [decide_eq_true ⟨rfl, rfl⟩]
    refine oneP_fit hm h2 rfl (by simp) ⟨right_nil, right_nil, fun p hp _ => ?_, fun x => ⟨fun h => by simp at h, ?_⟩⟩
    · obtain ⟨i, hi, rfl⟩ := List.mem_iff_getElem.1 hp
      simp [fx]
    · rintro (h | ⟨p, hp, hc, _⟩)
      · exact h
      · obtain ⟨v, _, hv⟩ := List.mem_map.1 (List.of_mem_zip hp).1
        exact absurd (hv ▸ hcon v) hc
  · rw [decide_eq_false hab]
    rcases oneP_cases a (vs.map fx) b ws [] with ⟨m, _, _, _, h3, h4, hf⟩ | ⟨h, _⟩
    · refine absurd ⟨h3, List.ext_getElem (by simpa using h4) fun i hi hj => ?_⟩ hab
      have := hf.2.2.1 (fx vs[i], ws[i]) (List.mem_iff_getElem.2 ⟨i, by simp; omega, by simp⟩) (hcon _)
      exact this
    · exact h
theorem free_l1 (m : List S39) (hm : chkP m = 0) (b : ByteArray) (ws : List S24) (hl : ws.length ≤ 5) (hat : ∀ i (h : i < ws.length), bd (nms[i]'(by rw [nms_len]; omega)) ws[i] ∈ m) :
    ∀ (d i : Nat), i + d = ws.length → Ev (fun k => constablelaw06_MatchFree.l1 k nms m true i b ws) true := by
  intro d
  induction d with
  | zero =>
    intro i h
    refine Ev.step (fun k => by rw [constablelaw06_MatchFree.l1, if_neg (by omega)]) ?_
    exact Ev.bind ev_wakes6 (Ev.now _)
  | succ d ih =>
    intro i h
    have hi : i < ws.length := by omega
    have hn : i < nms.length := by rw [nms_len]; omega
    have hml := right_len hm
    refine Ev.step (fun k => by rw [constablelaw06_MatchFree.l1, if_pos (by omega), if_pos rfl, if_pos (by omega), if_pos (show (i : Int) < (nms.length : Int) by omega), rdS_get hn, rdV_get hi, w64 (show ws.length ≤ 1000000 by omega) hi]) ?_
    have hg := ev_get (l := m) (by omega) nms[i]
    rw [show getP m nms[i] = (ws[i].f0, ws[i].f1, ws[i].f2, true) from getP_of hm (hat i hi)] at hg
    refine Ev.bind hg ?_
    simp only [if_true, beq_self_eq_true, Bool.not_true, Bool.or_self, Bool.false_eq_true, if_false]
    exact ih (i + 1) (by omega)
theorem free_l0 (a : ByteArray) (vs : List S24) (b : ByteArray) (ws : List S24) (h1 : factP a vs = 0) (h2 : factP b ws = 0) (ha : a.size ≤ 1000000) (hb : b.size ≤ 1000000) (fv : fitV vs = true) (fw : fitV ws = true) :
    ∀ (d i : Nat), i + d = vs.length → Ev (fun k => constablelaw06_MatchFree.l0 k nms i a vs b ws a ((nms.take i).map fr) a ((vs.take i).map fx)) true := by
  have z1 := fact_zero.1 h1
  have z2 := fact_zero.1 h2
  intro d
  induction d with
  | zero =>
    intro i h
    have hi : i = vs.length := by omega
    subst hi
    refine Ev.step (fun k => by rw [constablelaw06_MatchFree.l0, if_neg (by omega)]) ?_
    rw [List.take_length]
    have ft1 : fitT ((nms.take vs.length).map fr) = true := fitT_mem.2 fun t ht => by
      obtain ⟨s, hs, rfl⟩ := List.mem_map.1 ht
      obtain ⟨i, hi, rfl⟩ := List.mem_iff_getElem.1 (List.mem_of_mem_take hs)
      exact ⟨nms_size i hi, by show 0 ≤ 1000000; omega⟩
    have ft2 : fitT (vs.map fx) = true := fitT_mem.2 fun t ht => by
      obtain ⟨v, hv, rfl⟩ := List.mem_map.1 ht
      exact ⟨by show 0 ≤ 1000000; omega, fitV_mem.1 fv v hv⟩
    have e1 := ev_one (a := a) (b := b) ha ft1 hb fw fit_nil
    have e2 := ev_one (a := a) (b := b) ha ft2 hb fw fit_nil
    rw [free_one h1 h2] at e1
    rw [fixed_one h1 h2] at e2
    refine Ev.bind e1 ?_
    refine Ev.bind e2 ?_
    have hk := ev_kfact a (vs := vs) (by omega) b ws
    by_cases hab : a = b
    · simp only [if_pos ((tl_iff a b).2 hab)]
      by_cases hl : vs.length = ws.length
      · rw [if_pos ⟨hab, hl⟩]
        simp only [show (true != ((vs.length : Int) == (ws.length : Int))) = false by rw [hl, beq_self_eq_true]; rfl, Bool.false_eq_true, if_false]
        refine Ev.bind hk ?_
        simp only [bne_self_eq_false, Bool.false_eq_true, if_false, List.length_nil, Int.natCast_zero, if_neg (show ¬ ((0 : Int) > 0) by decide)]
        have hR : chkP (List.zipWith bd (nms.take vs.length) ws) = 0 := by
          rcases oneP_cases a ((nms.take vs.length).map fr) b ws [] with ⟨m, e, _, _, _, _, hf⟩ | ⟨e, _⟩
          · rw [free_one h1 h2, if_pos ⟨hab, hl⟩] at e
            injection e with e _
            rw [e]; exact hf.2.1
          · rw [free_one h1 h2, if_pos ⟨hab, hl⟩] at e
            injection e with _ e
            cases e
        refine free_l1 _ hR b ws z2.2.1 (fun i hi => ?_) ws.length 0 (by omega)
        refine List.mem_iff_getElem.2 ⟨i, by simp [nms_len]; omega, by simp⟩
      · rw [if_neg (fun h => hl h.2)]
        simp only [show (false != ((vs.length : Int) == (ws.length : Int))) = false by rw [beq_eq_false_iff_ne.2 (show (vs.length : Int) ≠ (ws.length : Int) by omega)]; rfl, Bool.false_eq_true, if_false]
        refine Ev.bind hk ?_
        simp only [bne_self_eq_false, Bool.false_eq_true, if_false, List.length_nil, Int.natCast_zero, if_neg (show ¬ ((0 : Int) > 0) by decide)]
        by_cases h0 : 0 < ws.length
        · refine Ev.step (fun k => by rw [constablelaw06_MatchFree.l1, if_pos (by omega), if_neg (by decide)]) ?_
          exact Ev.bind ev_wakes6 (Ev.now _)
        · refine Ev.step (fun k => by rw [constablelaw06_MatchFree.l1, if_neg (by omega)]) ?_
          exact Ev.bind ev_wakes6 (Ev.now _)
    · simp only [if_neg (fun h => hab ((tl_iff a b).1 h))]
      rw [if_neg (fun h => hab h.1)]
      simp only [bne_self_eq_false, Bool.false_eq_true, if_false]
      refine Ev.bind hk ?_
      simp only [bne_self_eq_false, Bool.false_eq_true, if_false, List.length_nil, Int.natCast_zero, if_neg (show ¬ ((0 : Int) > 0) by decide)]
      by_cases h0 : 0 < ws.length
      · refine Ev.step (fun k => by rw [constablelaw06_MatchFree.l101, if_pos (by omega), if_neg (by decide)]) ?_
        exact Ev.bind ev_wakes6 (Ev.now _)
      · refine Ev.step (fun k => by rw [constablelaw06_MatchFree.l101, if_neg (by omega)]) ?_
        exact Ev.bind ev_wakes6 (Ev.now _)
  | succ d ih =>
    intro i h
    have hi : i < vs.length := by omega
    have hn : i < nms.length := by rw [nms_len]; omega
    refine Ev.step (fun k => by rw [constablelaw06_MatchFree.l0, if_pos (by omega), if_pos (by omega), if_pos (show (i : Int) < (nms.length : Int) by omega), if_pos (by simp; omega), if_pos (by simp; omega), rdS_get hn, rdV_get hi, w64 (show vs.length ≤ 1000000 by omega) hi]) ?_
    have := ih (i + 1) (by omega)
    rw [List.take_succ_eq_append_getElem hn, List.take_succ_eq_append_getElem hi, List.map_append, List.map_append] at this
    exact this
theorem matchFree (a : ByteArray) (vs : List S24) (b : ByteArray) (ws : List S24) : ∃ k, constablelaw06_MatchFree.f k a vs b ws = some true := by
  refine Ev.rounds (g := fun k => constablelaw06_MatchFree.f k a vs b ws) ?_
  unfold constablelaw06_MatchFree.f
  obtain ⟨h1, e1, g1⟩ := ev_heavyF a vs
  refine Ev.bind e1 ?_
  cases h1
  rotate_left
  · simp only [if_true]; exact Ev.now _
  obtain ⟨g1a, g1b, g1c⟩ := g1 rfl
  simp only [Bool.false_eq_true, if_false]
  obtain ⟨h2, e2, g2⟩ := ev_heavyF b ws
  refine Ev.bind e2 ?_
  cases h2
  rotate_left
  · simp only [if_true]; exact Ev.now _
  obtain ⟨g2a, g2b, g2c⟩ := g2 rfl
  simp only [Bool.false_eq_true, if_false]
  have fv : fitV vs = true := fitV_mem.2 fun v hv => by have := g1c v hv; omega
  have fw : fitV ws = true := fitV_mem.2 fun v hv => by have := g2c v hv; omega
  refine Ev.bind (ev_rfact (a := a) (by omega) fv) ?_
  by_cases z1 : factP a vs = 0
  rotate_left
  · simp only [decide_eq_false z1, Bool.false_eq_true, if_false]; exact Ev.now _
  simp only [decide_eq_true z1, if_true]
  refine Ev.bind (ev_rfact (a := b) (by omega) fw) ?_
  by_cases z2 : factP b ws = 0
  rotate_left
  · simp only [decide_eq_false z2, Bool.false_eq_true, if_false]; exact Ev.now _
  simp only [decide_eq_true z2, if_true]
  exact free_l0 a vs b ws z1 z2 (by omega) (by omega) fv fw vs.length 0 (by omega)
end Go.Proofs.Ytghommaokdhjmaa.Pure
/- The row of MatchFree: whatever the input, true; out of the printed walk and the plain law. -/
namespace Go.Proofs.Ytghommaokdhjmaa.matchFree
open Go.ChangeShapes Go.WideShapes Go.ChangeAt Go.RowKit Go.Proofs.YtghommaokdhjmaaW.PrintWords Go.Proofs.Ytghommaokdhjmaa.P Go.Proofs.Ytghommaokdhjmaa.Open
open Go.ChangeMaps (open_string shut_string)
set_option linter.unusedVariables false
theorem own : ownKnob Try.prog.godebug = none := by kernel_rfl
theorem laidOut : laidOutB Try.prog = true := by kernel_rfl
set_option maxRecDepth 100000 in
theorem lifted (os : Os) (started : os.Started) (H : Type) (enc : TypeId × Value → H) :
    ReturnsInHanded {} Try.checked os 13 .any (Rows.matchFreeSpec.pre6 enc Try.prog Try.f13 Rows.matchFreeRow.domain false) (Rows.matchFreeSpec.post enc Try.prog Try.f13 false true false false) := by
  refine returnsInHanded_of_change_sized (C := Try.checked) own started (by kernel_rfl) Try.func13
    (ChangeSpec.witness6 (enc := enc) (C := Try.checked) false ⟨#[], #[.agg #[.string ByteArray.empty, .slice none 0 0], .agg #[.string ByteArray.empty, .slice none 0 0]], []⟩ 8 (by kernel_rfl) (by kernel_rfl) (by kernel_rfl) (by kernel_rfl)) ?_
  intro W base args ds gs before hval0 hW hcnd hsz0 _
  have hval : ∀ (j : Nat) t v, Try.f13.params[j]? = some t → args[j]? = some v → Value.okWide Try.prog W .any base t v := hval0
  have hW' := hW
  obtain ⟨p, q, hA0, hV, rfl, hfz, hnd⟩ := hW
  have hA : DataW.TrodAll enc Try.prog W 0 (fun _ => true) true Try.f13.params.toList args.toList ds p := hA0
  rw [Try.params13] at hA hval
  obtain ⟨v0, vs0, d0, ds0, p0, q0, hargs, rfl, rfl, h0, r0⟩ := trodAll_cons hA
  obtain ⟨v1, vs1, d1, ds1, p1, q1, rfl, rfl, rfl, h1, r1⟩ := trodAll_cons r0
  obtain ⟨rfl, rfl, rfl⟩ := trodAll_nil r1
  obtain rfl : args = #[v0, v1] := by cases args; simp_all
  obtain ⟨rfl, rfl⟩ := trodVars_none hV
  obtain ⟨u0, rfl, _⟩ := okWide_struct Try.underlying53 (hval 0 53 v0 rfl rfl)
  have k0 := h0
  have lt0 : ∀ x ∈ p0, x.block < W.heap.size := by obtain ⟨m, hm⟩ := k0; exact DataW.trod_lt m _ _ _ hm
  obtain ⟨x0, a0, cap0, rfl, hc0, hr0⟩ : ∃ (x : S53) (a : Option Addr) (c : Nat), u0 = #[.string x.f0, .slice a x.f1.length c] ∧ x.f1.length ≤ c ∧ Kd.C k24 W a x.f1.length x.f1 := by
    obtain ⟨fuel, hf⟩ := h0
    obtain ⟨p, hp⟩ := tells53 W _ _ _ hf
    obtain ⟨a, c, e, hl, hC⟩ := k53_open hp
    exact ⟨p, a, c, Array.toList_inj.1 (by simpa [Value.cells] using e), hl, hC⟩
  obtain ⟨u1, rfl, _⟩ := okWide_struct Try.underlying53 (hval 1 53 v1 rfl rfl)
  have k1 := h1
  have lt1 : ∀ x ∈ p1, x.block < W.heap.size := by obtain ⟨m, hm⟩ := k1; exact DataW.trod_lt m _ _ _ hm
  obtain ⟨x1, a1, cap1, rfl, hc1, hr1⟩ : ∃ (x : S53) (a : Option Addr) (c : Nat), u1 = #[.string x.f0, .slice a x.f1.length c] ∧ x.f1.length ≤ c ∧ Kd.C k24 W a x.f1.length x.f1 := by
    obtain ⟨fuel, hf⟩ := h1
    obtain ⟨p, hp⟩ := tells53 W _ _ _ hf
    obtain ⟨a, c, e, hl, hC⟩ := k53_open hp
    exact ⟨p, a, c, Array.toList_inj.1 (by simpa [Value.cells] using e), hl, hC⟩
  clear hA0 hval0 hsz0
  obtain ⟨kf, hkf⟩ := Pure.matchFree x0.f0 x0.f1 x1.f0 x1.f1
  refine (P.constablelaw06_MatchFree.calls kf x0.f0 a0 cap0 x0.f1 x1.f0 a1 cap1 x1.f1 true W hr0 hc0 hr1 hc1 hkf).mono fun e W' ⟨he, bel⟩ => ?_
  subst he
  exact ⟨_, rfl, _, _, _, [], _, [], hW', trodAll_mk1 (shut_bool Try.underlying4 _), (trodAll_cons_mk (Below.trod laidOut (by kernel_rfl) (of_decide_eq_true (by kernel_rfl)) k0 bel lt0) (trodAll_cons_mk (Below.trod laidOut (by kernel_rfl) (of_decide_eq_true (by kernel_rfl)) k1 bel lt1) trodAll_mk0)), rfl, bel.frame _, fun h => by cases h⟩
theorem over : Rows.matchFreeRow.holds Try.pinned (OpenSpec.ofChange Rows.matchFreeSpec) :=
  OpenClaim.holds_of_wide 13 Try.f13 rfl rfl rfl rfl rfl rfl rfl ⟨rfl, rfl, rfl, rfl, rfl⟩ rfl rfl rfl rfl rfl (by kernel_rfl) Try.func13 (by kernel_rfl)
    (of_decide_eq_true (by kernel_rfl)) (by unfold Func.isWrapper; first | (rw [if_pos (by decide +kernel)]; kernel_rfl) | (rw [if_neg (by decide +kernel)]; exact ⟨rfl, rfl⟩))
    (fun os started H enc _ => lifted os started H enc)
theorem proved : Rows.MatchFreeSaid := over
end Go.Proofs.Ytghommaokdhjmaa.matchFree
namespace Go.Proofs.Ytghommaokdhjmaa
/-- The row, under a short name, for the claim. -/
theorem matchFree_holds : Rows.MatchFreeSaid := matchFree.proved
#print axioms matchFree_holds
end Go.Proofs.Ytghommaokdhjmaa
