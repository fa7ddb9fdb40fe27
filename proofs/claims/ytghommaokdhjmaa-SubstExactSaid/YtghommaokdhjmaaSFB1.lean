/- A part of the proof: walks of the code and plain laws, printed and by hand; no condition. -/
import Derived.Test.YtghommaokdhjmaaSFA2
import Derived.ChangeSame
import Derived.ChangeArms
import Derived.Test.YtghommaokdhjmaaWRepsOne
/- Right rows of variables' values: what they have settles them; subst.Both as a plain statement about what rows have; no condition. -/
set_option linter.unusedVariables false
set_option linter.unusedSimpArgs false
namespace Go.Proofs.Ytghommaokdhjmaa.SpecB
open Go.Shelf Go.RowKit Go.Lib Go.Sort Go.Proofs.SymP Go.Proofs.YtghommaokdhjmaaW.PrintWords Go.Proofs.Ytghommaokdhjmaa.P Go.Proofs.Ytghommaokdhjmaa.Str Go.Proofs.Ytghommaokdhjmaa.PSpec Go.Proofs.Ytghommaokdhjmaa.BothB
theorem cf_swap (x y : S39) : cfB x y = - cfB y x := cmpS_swap _ _
theorem cf_zero (x y : S39) : cfB x y = 0 ↔ x.f0 = y.f0 := cmpS_zero _ _
theorem cf_lt {x y z : S39} (h1 : cfB x y < 0) (h2 : cfB y z < 0) : cfB x z < 0 := cmpS_lt h1 h2
/-- Rising by name. -/
def Rises (l : List S39) : Prop := l.Pairwise fun x y => cfB x y < 0
theorem right_iff (m : List S39) : chkP m = 0 ↔ m.length ≤ 100 ∧ (∀ x ∈ m, rightP x = true) ∧ Rises m := by
  constructor
  · intro h
    have h2 := (chkP_zero m).1 h
    refine ⟨h2.1, fun x hx => ?_, List.pairwise_iff_getElem.2 fun i j hi hj hij => chk_asc h j i hij hj⟩
    obtain ⟨i, hi, rfl⟩ := List.mem_iff_getElem.1 hx
    have := h2.2 i hi
    unfold chkT at this
    rw [Bool.and_eq_true, rd_get hi] at this
    exact this.1
  · rintro ⟨h1, h2, h3⟩
    refine (chkP_zero m).2 ⟨h1, fun i hi => ?_⟩
    unfold chkT
    rw [Bool.and_eq_true, Bool.or_eq_true, decide_eq_true_eq, rd_get hi]
    refine ⟨h2 _ (List.getElem_mem hi), ?_⟩
    by_cases e : i = 0
    · exact .inl e
    · refine .inr ?_
      rw [less_iff, rd_get (show i - 1 < m.length by omega)]
      exact List.pairwise_iff_getElem.1 h3 (i - 1) i (by omega) hi (by omega)
theorem rises_nodup {l : List S39} (h : Rises l) : l.Nodup := by
  refine List.Pairwise.imp (fun {x y} hxy e => ?_) h
  subst e
  have := (cf_zero x x).2 rfl
  omega
theorem rises_only {a b : List S39} (ha : Rises a) (hb : Rises b) (h : ∀ x, x ∈ a ↔ x ∈ b) : a = b := by
  have hp : a.Perm b := (List.perm_ext_iff_of_nodup (rises_nodup ha) (rises_nodup hb)).2 h
  refine List.Perm.eq_of_pairwise (le := fun x y => cfB x y < 0) (fun x y _ _ h1 h2 => ?_) ha hb hp
  have := cf_swap x y
  omega
theorem rises_inj {l : List S39} (h : Rises l) {x y : S39} (hx : x ∈ l) (hy : y ∈ l) (he : x.f0 = y.f0) : x = y := by
  have hz := (cf_zero x y).2 he
  obtain ⟨i, hi, rfl⟩ := List.mem_iff_getElem.1 hx
  obtain ⟨j, hj, rfl⟩ := List.mem_iff_getElem.1 hy
  have hp := List.pairwise_iff_getElem.1 h
  rcases Nat.lt_trichotomy i j with h1 | h1 | h1
  · have := hp i j hi hj h1; omega
  · subst h1; rfl
  · have h2 := hp j i hj hi h1
    have h3 := cf_swap l[i] l[j]
    omega
theorem bothL_mem (l : List S39) (x : S39) : x ∈ bothL l ↔ x ∈ l := by
  unfold bothL
  rw [mem_compact_iff]
  exact (sortB_perm l).mem_iff
theorem compact_at {d : Array S39} {m : Nat} {x : S39} (h : x ∈ compactUpTo d m) : ∃ j, j < m ∧ d[j]! = x := by
  unfold compactUpTo at h
  obtain ⟨j, hj, hx⟩ := List.mem_map.1 h
  exact ⟨j, List.mem_range.1 (List.mem_filter.1 hj).1, hx⟩
theorem compact_rises {d : Array S39} (hs : Sorted d.toList) (hi : ∀ x ∈ d.toList, ∀ y ∈ d.toList, x.f0 = y.f0 → x = y) : ∀ m, m ≤ d.size → Rises (compactUpTo d m)
  | 0, _ => by
    have : compactUpTo d 0 = [] := by unfold compactUpTo; simp
    rw [this]; exact List.Pairwise.nil
  | m + 1, hm => by
    rw [compactUpTo_succ]
    have ih := compact_rises hs hi m (by omega)
    by_cases hk : keeps d m = true
    · rw [if_pos hk]
      refine List.pairwise_append.2 ⟨ih, List.pairwise_singleton _ _, fun x hx y hy => ?_⟩
      have hy' := List.mem_singleton.1 hy
      subst hy'
      obtain ⟨j, hj, rfl⟩ := compact_at hx
      unfold keeps at hk
      rw [decide_eq_true_eq] at hk
      have hne : d[m]! ≠ d[m - 1]! := by
        rcases hk with h | h
        · omega
        · exact h
      have hsg := List.pairwise_iff_getElem.1 hs
      have get : ∀ q, q < d.size → d[q]! ∈ d.toList := fun q hq => by rw [getElem!_pos d q hq]; exact Array.mem_toList_iff.2 (Array.getElem_mem _)
      have le : ∀ p q, p < q → q < d.size → cfB d[p]! d[q]! ≤ 0 := fun p q hpq hq => by
        have := hsg p q (by rw [Array.length_toList]; omega) (by rw [Array.length_toList]; omega) hpq
        simp only [Array.getElem_toList] at this
        rw [getElem!_pos d p (by omega), getElem!_pos d q hq]
        exact this
      have h1 : cfB d[m - 1]! d[m]! < 0 := by
        have h2 := le (m - 1) m (by omega) (by omega)
        rcases Int.lt_or_eq_of_le h2 with h3 | h3
        · exact h3
        · exact absurd (hi _ (get (m - 1) (by omega)) _ (get m (by omega)) ((cf_zero _ _).1 h3)).symm hne
      by_cases e : j = m - 1
      · subst e; exact h1
      · have h2 := le j (m - 1) (by omega) (by omega)
        rcases Int.lt_or_eq_of_le h2 with h3 | h3
        · exact cf_lt h3 h1
        · rw [hi _ (get j (by omega)) _ (get (m - 1) (by omega)) ((cf_zero _ _).1 h3)]; exact h1
    · rw [if_neg hk, List.append_nil]; exact ih
/-- m is a and b together, all of them right. -/
def Join (a b m : List S39) : Prop := chkP a = 0 ∧ chkP b = 0 ∧ chkP m = 0 ∧ ∀ x, x ∈ m ↔ x ∈ a ∨ x ∈ b
theorem join_only {a b m m' : List S39} (h : Join a b m) (h' : Join a b m') : m = m' :=
  rises_only ((right_iff m).1 h.2.2.1).2.2 ((right_iff m').1 h'.2.2.1).2.2 fun x => by rw [h.2.2.2, h'.2.2.2]
theorem both_join {a b m : List S39} (h : Join a b m) : bothP a b = (m, true) := by
  have hr := (right_iff m).1 h.2.2.1
  have e : bothL (a ++ b) = m := by
    refine rises_only ?_ hr.2.2 fun x => by rw [bothL_mem, List.mem_append, h.2.2.2]
    have hm : ∀ x ∈ (sortB (a ++ b)).toArray.toList, x ∈ m := fun x hx => by
      have hx2 : x ∈ a ++ b := (sortB_perm (a ++ b)).mem_iff.1 (by simpa using hx)
      exact (h.2.2.2 x).2 (List.mem_append.1 hx2)
    exact compact_rises (sortB_sorted _) (fun x hx y hy he => rises_inj hr.2.2 (hm x hx) (hm y hy) he) _ (Nat.le_refl _)
  unfold bothP
  rw [e, if_pos ⟨h.1, h.2.1, h.2.2.1⟩]
theorem both_cases (a b : List S39) : (∃ m, bothP a b = (m, true) ∧ Join a b m) ∨ (bothP a b = ([], false) ∧ ∀ m, ¬ Join a b m) := by
  by_cases h : chkP a = 0 ∧ chkP b = 0 ∧ chkP (bothL (a ++ b)) = 0
  · exact .inl ⟨bothL (a ++ b), by unfold bothP; rw [if_pos h], h.1, h.2.1, h.2.2, fun x => by rw [bothL_mem, List.mem_append]⟩
  · have e : bothP a b = ([], false) := by unfold bothP; rw [if_neg h]
    refine .inr ⟨e, fun m hm => ?_⟩
    rw [both_join hm] at e
    injection e with _ e2
    cases e2
theorem join_swap {a b m : List S39} (h : Join a b m) : Join b a m := ⟨h.2.1, h.1, h.2.2.1, fun x => by rw [h.2.2.2, Or.comm]⟩
theorem both_swap (a b : List S39) : bothP a b = bothP b a := by
  rcases both_cases a b with ⟨m, h1, h2⟩ | ⟨h1, h2⟩
  · rw [h1, both_join (join_swap h2)]
  · rcases both_cases b a with ⟨m, h3, h4⟩ | ⟨h3, _⟩
    · exact absurd (join_swap h4) (h2 m)
    · rw [h1, h3]
/-- What is taken out of a right row is right. -/
theorem right_filter {m : List S39} (h : chkP m = 0) (p : S39 → Bool) : chkP (m.filter p) = 0 := by
  have h2 := (right_iff m).1 h
  exact (right_iff _).2 ⟨Nat.le_trans (List.length_filter_le _ _) h2.1, fun x hx => h2.2.1 x (List.mem_filter.1 hx).1, List.Pairwise.filter _ h2.2.2⟩
theorem right_one {x : S39} (h : rightP x = true) : chkP [x] = 0 := (right_iff _).2 ⟨by simp, fun y hy => by rw [List.mem_singleton.1 hy]; exact h, List.pairwise_singleton _ _⟩
theorem right_nil : chkP [] = 0 := (right_iff _).2 ⟨by simp, fun y hy => by simp at hy, List.Pairwise.nil⟩
/-- subst.Put's answer. -/
def putP (l : List S39) (x : S39) : List S39 × Bool := if rightP x = true then bothP l [x] else ([], false)
/-- m is l with x. -/
def With (l : List S39) (x : S39) (m : List S39) : Prop := chkP l = 0 ∧ rightP x = true ∧ chkP m = 0 ∧ ∀ y, y ∈ m ↔ y ∈ l ∨ y = x
theorem with_join {l m : List S39} {x : S39} : With l x m ↔ rightP x = true ∧ Join l [x] m := by
  unfold With Join
  constructor
  · rintro ⟨h1, h2, h3, h4⟩
    exact ⟨h2, h1, right_one h2, h3, fun y => by rw [h4, List.mem_singleton]⟩
  · rintro ⟨h2, h1, _, h3, h4⟩
    exact ⟨h1, h2, h3, fun y => by rw [h4, List.mem_singleton]⟩
theorem put_with {l m : List S39} {x : S39} (h : With l x m) : putP l x = (m, true) := by
  have h2 := with_join.1 h
  unfold putP
  rw [if_pos h2.1, both_join h2.2]
theorem put_cases (l : List S39) (x : S39) : (∃ m, putP l x = (m, true) ∧ With l x m) ∨ (putP l x = ([], false) ∧ ∀ m, ¬ With l x m) := by
  by_cases hr : rightP x = true
  · rcases both_cases l [x] with ⟨m, h1, h2⟩ | ⟨h1, h2⟩
    · exact .inl ⟨m, by unfold putP; rw [if_pos hr, h1], with_join.2 ⟨hr, h2⟩⟩
    · exact .inr ⟨by unfold putP; rw [if_pos hr, h1], fun m hm => h2 m (with_join.1 hm).2⟩
  · exact .inr ⟨by unfold putP; rw [if_neg hr], fun m hm => hr hm.2.1⟩
/-- subst.Get's answer. -/
def getP : List S39 → ByteArray → Int × Int × ByteArray × Bool
  | [], _ => (0, 0, (⟨#[]⟩ : ByteArray), false)
  | x :: l, n => if x.f0 = n then (x.f1.f0, x.f1.f1, x.f1.f2, true) else getP l n
theorem getP_cases (n : ByteArray) : ∀ l : List S39, (∃ x ∈ l, x.f0 = n ∧ getP l n = (x.f1.f0, x.f1.f1, x.f1.f2, true)) ∨ ((∀ x ∈ l, x.f0 ≠ n) ∧ getP l n = (0, 0, (⟨#[]⟩ : ByteArray), false))
  | [] => .inr ⟨fun x hx => by simp at hx, rfl⟩
  | x :: l => by
    by_cases h : x.f0 = n
    · exact .inl ⟨x, List.mem_cons_self, h, by rw [getP, if_pos h]⟩
    · rcases getP_cases n l with ⟨y, h1, h2, h3⟩ | ⟨h1, h2⟩
      · exact .inl ⟨y, List.mem_cons_of_mem _ h1, h2, by rw [getP, if_neg h]; exact h3⟩
      · refine .inr ⟨fun y hy => ?_, by rw [getP, if_neg h]; exact h2⟩
        rcases List.mem_cons.1 hy with rfl | hy
        · exact h
        · exact h1 y hy
theorem getP_of {l : List S39} (h : chkP l = 0) {x : S39} (hx : x ∈ l) : getP l x.f0 = (x.f1.f0, x.f1.f1, x.f1.f2, true) := by
  rcases getP_cases x.f0 l with ⟨y, h1, h2, h3⟩ | ⟨h1, h2⟩
  · rw [rises_inj ((right_iff l).1 h).2.2 h1 hx h2] at h3; exact h3
  · exact absurd rfl (h1 x hx)
/-- Two rows that have the same of a name's answer alike. -/
theorem getP_same {l m : List S39} (hl : chkP l = 0) (hm : chkP m = 0) (n : ByteArray) (h : ∀ x : S39, x.f0 = n → (x ∈ l ↔ x ∈ m)) : getP l n = getP m n := by
  rcases getP_cases n l with ⟨y, h1, h2, h3⟩ | ⟨h1, h2⟩
  · rw [h3, ← h2, getP_of hm ((h y h2).1 h1)]
  · rcases getP_cases n m with ⟨y, h3, h4, h5⟩ | ⟨h3, h4⟩
    · exact absurd h4 (h1 y ((h y h4).2 h3))
    · rw [h2, h4]
end Go.Proofs.Ytghommaokdhjmaa.SpecB
namespace Go.Proofs.Ytghommaokdhjmaa.P
open Go.RowKit Go.Proofs.YtghommaokdhjmaaW.PrintWords Go.Proofs.YtghommaokdhjmaaW.PrintLast Go.Proofs.YtghommaokdhjmaaW.PrintMore Go.Proofs.Ytghommaokdhjmaa.Gate
set_option linter.unusedVariables false
set_option linter.unusedSimpArgs false

/-! ### subst_Put: function 19 -/
def subst_Put.f (k : Nat) (l0 : List (S39)) (a1 : ByteArray) (a2_0 : Int) (a2_1 : Int) (a2_2 : ByteArray) : Option ((List (S39)) × Bool) := (subst_right.f k a1 a2_0 a2_1 a2_2).bind fun t143 => (if t143 = true then ((subst_Both.f l0 (([(⟨a1, (⟨a2_0, a2_1, a2_2⟩ : S24)⟩ : S39)] : List (S39)))).bind fun bt147 => (some (bt147.1, bt147.2))) else (some (([] : List (S39)), false)))
theorem subst_Put.mono : ∀ a0 a1 a2 a3 a4 k, LeO (subst_Put.f k a0 a1 a2 a3 a4) (subst_Put.f (k + 1) a0 a1 a2 a3 a4) := by
 intro a0 a1 a2 a3 a4 k
 unfold subst_Put.f
 repeat' first
   | (with_reducible exact subst_right.mono _ _ _ _ _)
   | (with_reducible exact LeO.refl _)
   | (with_reducible exact LeO.none _)
   | (with_reducible refine LeO.ite ?_ ?_)
   | (with_reducible refine LeO.bind ?_ (fun _ => ?_))
set_option maxHeartbeats 8000000 in
set_option maxRecDepth 100000 in
theorem subst_Put.calls (k : Nat) (A0 : Option Addr) (c0 : Nat) (l0 : List (S39)) (a1 : ByteArray) (a2_0 : Int) (a2_1 : Int) (a2_2 : ByteArray) (r1 : List (S39)) (r2 : Bool) (w : World) (hr0 : Kd.C k39 w A0 l0.length l0) (hc0 : l0.length ≤ c0) (h : subst_Put.f k l0 a1 a2_0 a2_1 a2_2 = some (r1, r2)) :
  Calls Try.prog 19 #[.slice A0 l0.length c0, .string a1, .agg #[.int .i64 a2_0, .int .i64 a2_1, .string a2_2]] w fun e w' => ∃ v0_ : Value, e = .returned (.tuple #[v0_, .bool r2]) ∧ Kd.R k39 39 w' w.heap.size (fun _ => True) v0_ r1 ∧ Below w.heap.size w w' := by
 have hu24 := Try.underlying24
 have hu39 := Try.underlying39
 have HR0 := Aside0.mk hr0
 have HC0 := Aside0.mk hc0
 clear hr0 hc0
 have HB := Aside0.mk (Below.refl w.heap.size w)
 have H : ((subst_right.f k a1 a2_0 a2_1 a2_2).bind fun t143 => (if t143 = true then ((subst_Both.f l0 (([(⟨a1, (⟨a2_0, a2_1, a2_2⟩ : S24)⟩ : S39)] : List (S39)))).bind fun bt147 => (some (bt147.1, bt147.2))) else (some (([] : List (S39)), false)))) = some (r1, r2) := h
 clear h
 replace H := Option.bind_eq_some_iff.mp H
 obtain ⟨t143, A40, H⟩ := H
 replace H : (if t143 = true then ((subst_Both.f l0 (([(⟨a1, (⟨a2_0, a2_1, a2_2⟩ : S24)⟩ : S39)] : List (S39)))).bind fun bt147 => (some (bt147.1, bt147.2))) else (some (([] : List (S39)), false))) = some (r1, r2) := H
 have A4 := Aside0.mk A40
 clear A40
 by_cases c5 : t143 = true
 ·subst c5
  have H1 : ((subst_Both.f l0 (([(⟨a1, (⟨a2_0, a2_1, a2_2⟩ : S24)⟩ : S39)] : List (S39)))).bind fun bt147 => (some (bt147.1, bt147.2))) = some (r1, r2) := by rw [if_pos rfl] at H; exact H
  clear H
  have H := H1
  clear H1
  obtain ⟨y144, hy144⟩ : ∃ y_ : List (S39), y_ = (([(⟨a1, (⟨a2_0, a2_1, a2_2⟩ : S24)⟩ : S39)] : List (S39))) := ⟨_, rfl⟩
  replace H : ((subst_Both.f l0 y144).bind fun bt147 => (some (bt147.1, bt147.2))) = some (r1, r2) := by first | (rw [hy144]; with_reducible exact H) | (have H2_ := (Option.bind_some _ _).symm.trans H; rw [hy144]; with_reducible exact H2_) | (have H2_ := (Option.bind_some _ _).symm.trans H; with_reducible exact H2_) | with_reducible exact H | (rw [hy144]; exact H) | exact H
  have Ny144 := Aside0.mk hy144
  clear hy144
  replace H := Option.bind_eq_some_iff.mp H
  obtain ⟨⟨t147, t148⟩, A60, H⟩ := H
  replace H : (some (t147, t148)) = some (r1, r2) := H
  have A6 := Aside0.mk A60
  clear A60
  simp only [Option.some.injEq, Prod.mk.injEq] at H
  obtain ⟨rfl, rfl⟩ := H
  go_enter Try.func19, Try.ntmps19
  go_wp2_with (first | ((with_reducible refine gate_dst (N := 5) rfl ?_); refine bE (N := 5) (cs := #[.int .i64 a2_0, .int .i64 a2_1, .string a2_2]) (t := 24) ?_; intro gb142 hg w7 hbox hb; have n0_ := Aside0.mk (below_step bB0 hb); have n1_ := Aside0.mk (hbox); have n2_ := Aside0.mk ((by rw [hg]; exact (below_size bB0) : w.heap.size ≤ gb142)); have n3_ := Aside0.mk ((by rw [hg]; exact (below_size bB0) : w.heap.size ≤ gb142)); clear HB; have HB := n0_; have BK142 := n1_; have GW142 := n2_; have GE142 := n3_; clear n0_ n1_ n2_ n3_; clear hb hbox hg; have hcz8_0 : w7.cell? ⟨gb142, 0, none⟩ = some (.int .i64 a2_0) := (blk_cell BK142.out 0).trans rfl; have hcz8_1 : w7.cell? ⟨gb142, 1, none⟩ = some (.int .i64 a2_1) := (blk_cell BK142.out 1).trans rfl; have hcz8_2 : w7.cell? ⟨gb142, 2, none⟩ = some (.string a2_2) := (blk_cell BK142.out 2).trans rfl; have hfz8_0 := blk_frozen BK142.out 0; have hfz8_1 := blk_frozen BK142.out 1; have hfz8_2 := blk_frozen BK142.out 2) | ((with_reducible refine gate_callee (f := 56) rfl ?_); refine goesL_ (some 11) rfl rfl Try.func56 (by kernel_rfl) rfl #[.agg #[.string a1, .int .i64 a2_0, .int .i64 a2_1, .string a2_2]] rfl aG ?_; (with_reducible refine (subst_right.calls k a1 a2_0 a2_1 a2_2 true _ A4.out).mono ?_); rintro e w9 ⟨rfl, hb⟩; refine ⟨_, rfl, ?_⟩; have n0_ := Aside0.mk (blk_below (g := gb142) (o := .cells #[.int .i64 a2_0, .int .i64 a2_1, .string a2_2] 24 (0, 0)) (by refine bk ?_; exact BK142.out) hb); have n1_ := Aside0.mk (below_step (bB1 GE142.out) hb); clear BK142; clear HB; have BK142 := n0_; have HB := n1_; clear n0_ n1_; (try clear hb); (try clear hb2); (try clear hk); (try clear hi); have hcz10_0 : w9.cell? ⟨gb142, 0, none⟩ = some (.int .i64 a2_0) := (blk_cell BK142.out 0).trans rfl; have hcz10_1 : w9.cell? ⟨gb142, 1, none⟩ = some (.int .i64 a2_1) := (blk_cell BK142.out 1).trans rfl; have hcz10_2 : w9.cell? ⟨gb142, 2, none⟩ = some (.string a2_2) := (blk_cell BK142.out 2).trans rfl; have hfz10_0 := blk_frozen BK142.out 0; have hfz10_1 := blk_frozen BK142.out 1; have hfz10_2 := blk_frozen BK142.out 2) | ((with_reducible refine gate_dst (N := 17) rfl ?_); refine Kd.R_lit k39 _ 39 ?hg (N := 17) ?hd (xs := ([(⟨a1, (⟨a2_0, a2_1, a2_2⟩ : S24)⟩ : S39)] : List (S39))) (inner := [.string a1, .int .i64 a2_0, .int .i64 a2_1, .string a2_2]) (ok := fun _ => True) (okp := fun _ => True) ?hr ?hp (fun _ hk => hk) trivial (Below.refl _ _) (Nat.le_refl _) (by simp) ?_; (case hd => rfl); (case hg => rfl); (case hr => first | (go_simp; done) | (go_simp; rfl)); (case hp => exact (Reps.c4 (show Kd.M k39 _ _ _ (⟨a1, (⟨a2_0, a2_1, a2_2⟩ : S24)⟩ : S39) [.string a1, .int .i64 a2_0, .int .i64 a2_1, .string a2_2] from (k39_mkM _ _ _ (⟨a1, (⟨a2_0, a2_1, a2_2⟩ : S24)⟩ : S39) )) (Reps.none _ _))); intro v145 w11 ho12 hb hg_ hnew_; clear hg_ hnew_; (first | rw [← Ny144.out] at ho12 | (simp only [Int.reduceToNat] at ho12; rw [← Ny144.out] at ho12)); have n0_ := Aside0.mk (Kd.R_lower ho12 (below_size (bB1 GE142.out))); have n1_ := Aside0.mk (blk_below (g := gb142) (o := .cells #[.int .i64 a2_0, .int .i64 a2_1, .string a2_2] 24 (0, 0)) (by refine bk ?_; exact BK142.out) hb); have n2_ := Aside0.mk (below_step (bB1 GE142.out) hb); clear BK142; clear HB; have HO146 := n0_; have BK142 := n1_; have HB := n2_; clear n0_ n1_ n2_; clear hb ho12; obtain ⟨Ao13, co13, eo13⟩ := Kd.R_slice HO146.out; subst eo13) | ((with_reducible refine gate_callee (f := 20) rfl ?_); refine goesL_ (some 18) rfl rfl Try.func20 (by kernel_rfl) rfl #[.slice A0 l0.length c0, .slice Ao13 y144.length co13] rfl aG ?_; (with_reducible refine (subst_Both.calls _ _ l0 _ _ y144 t147 t148 _ ?side1 ?side2 ?side3 ?side4 A6.out).mono ?_); (case side1 => exact sC (Kd.C_below HR0.out HB.out)); (case side2 => exact HC0.out); (case side3 => exact sC (Kd.R_reads' HO146.out).2.2); (case side4 => exact (Kd.R_reads' HO146.out).2.1); rintro e w14 ⟨v149, rfl, ho0, hb⟩; refine ⟨_, rfl, ?_⟩; have n0_ := Aside0.mk (Kd.R_elder' (sR HO146.out) (Kd.R_base ho0) hb); have n1_ := Aside0.mk (Kd.R_lower (Kd.R_new' ho0 (Kd.R_lt (sR HO146.out))) (below_size (bB1 GE142.out))); have n2_ := Aside0.mk (blk_below (g := gb142) (o := .cells #[.int .i64 a2_0, .int .i64 a2_1, .string a2_2] 24 (0, 0)) (by refine bk ?_; exact BK142.out) hb); have n3_ := Aside0.mk (below_step (bB1 GE142.out) hb); clear HO146; clear BK142; clear HB; have HO146 := n0_; have HO150 := n1_; have BK142 := n2_; have HB := n3_; clear n0_ n1_ n2_ n3_; (try clear hb); (try clear hb2); (try clear hk); (try clear hi); (try clear ho0)))
  go_ret2
  exact ⟨_, eW, by (with_reducible repeat (first | apply Kd.R_alloc | apply Kd.R_drewN | apply Kd.R_drew)); exact Kd.R_mono HO150.out (fun _ hk => trivial), (bB1 GE142.out)⟩
 ·replace c5 := Bool.eq_false_iff.mpr c5
  subst c5
  have H1 : (some (([] : List (S39)), false)) = some (r1, r2) := by rw [if_neg (show ¬ (false = true) by decide)] at H; exact H
  clear H
  have H := H1
  clear H1
  simp only [Option.some.injEq, Prod.mk.injEq] at H
  obtain ⟨rfl, rfl⟩ := H
  go_enter Try.func19, Try.ntmps19
  go_wp2_with (first | ((with_reducible refine gate_dst (N := 5) rfl ?_); refine bE (N := 5) (cs := #[.int .i64 a2_0, .int .i64 a2_1, .string a2_2]) (t := 24) ?_; intro gb142 hg w15 hbox hb; have n0_ := Aside0.mk (below_step bB0 hb); have n1_ := Aside0.mk (hbox); have n2_ := Aside0.mk ((by rw [hg]; exact (below_size bB0) : w.heap.size ≤ gb142)); have n3_ := Aside0.mk ((by rw [hg]; exact (below_size bB0) : w.heap.size ≤ gb142)); clear HB; have HB := n0_; have BK142 := n1_; have GW142 := n2_; have GE142 := n3_; clear n0_ n1_ n2_ n3_; clear hb hbox hg; have hcz16_0 : w15.cell? ⟨gb142, 0, none⟩ = some (.int .i64 a2_0) := (blk_cell BK142.out 0).trans rfl; have hcz16_1 : w15.cell? ⟨gb142, 1, none⟩ = some (.int .i64 a2_1) := (blk_cell BK142.out 1).trans rfl; have hcz16_2 : w15.cell? ⟨gb142, 2, none⟩ = some (.string a2_2) := (blk_cell BK142.out 2).trans rfl; have hfz16_0 := blk_frozen BK142.out 0; have hfz16_1 := blk_frozen BK142.out 1; have hfz16_2 := blk_frozen BK142.out 2) | ((with_reducible refine gate_callee (f := 56) rfl ?_); refine goesL_ (some 11) rfl rfl Try.func56 (by kernel_rfl) rfl #[.agg #[.string a1, .int .i64 a2_0, .int .i64 a2_1, .string a2_2]] rfl aG ?_; (with_reducible refine (subst_right.calls k a1 a2_0 a2_1 a2_2 false _ A4.out).mono ?_); rintro e w17 ⟨rfl, hb⟩; refine ⟨_, rfl, ?_⟩; have n0_ := Aside0.mk (blk_below (g := gb142) (o := .cells #[.int .i64 a2_0, .int .i64 a2_1, .string a2_2] 24 (0, 0)) (by refine bk ?_; exact BK142.out) hb); have n1_ := Aside0.mk (below_step (bB1 GE142.out) hb); clear BK142; clear HB; have BK142 := n0_; have HB := n1_; clear n0_ n1_; (try clear hb); (try clear hb2); (try clear hk); (try clear hi)))
  go_ret2
  exact ⟨_, eW, by first | exact Kd.R_nil _ _ _ _ _ | exact Kd.N_nil _ _ _ _ _ | exact Kd.V_nil _ _ _ _ _ | exact Kd.Q_nil _ _ _ _ _ | exact Kd.S_nil _ _ _ _ _, (bB1 GE142.out)⟩

end Go.Proofs.Ytghommaokdhjmaa.P
namespace Go.Proofs.Ytghommaokdhjmaa.P
open Go.RowKit Go.Proofs.YtghommaokdhjmaaW.PrintWords Go.Proofs.YtghommaokdhjmaaW.PrintLast Go.Proofs.YtghommaokdhjmaaW.PrintMore Go.Proofs.Ytghommaokdhjmaa.Gate
set_option linter.unusedVariables false
set_option linter.unusedSimpArgs false

/-! ### subst_Get: function 17 -/
def subst_Get.l0 : Nat → ByteArray → List (S39) → Int → Int → Option (Int × Int × ByteArray × Bool)
 | 0, _, _, _, _ => none
 | k + 1, x1, x8, x9, x10 => if x10 < x9 then (if 0 ≤ x10 then (if x10 < (x8.length : Int) then (if ((rd_T39 x8 x10).f0).toList = x1.toList then (some ((rd_T39 x8 x10).f1.f0, (rd_T39 x8 x10).f1.f1, (rd_T39 x8 x10).f1.f2, true)) else (subst_Get.l0 k x1 x8 x9 (wrap64 (x10 + 1)))) else (none)) else (none)) else (some (0, 0, (⟨#[]⟩ : ByteArray), false))
def subst_Get.f (k : Nat) (l0 : List (S39)) (a1 : ByteArray) : Option (Int × Int × ByteArray × Bool) := subst_Get.l0 k a1 l0 (l0.length : Int) 0
theorem subst_Get.mono_l : ∀ k, (∀ y0 y1 y2 y3, LeO (subst_Get.l0 k y0 y1 y2 y3) (subst_Get.l0 (k + 1) y0 y1 y2 y3))
 | 0 => fun _ _ _ _ r h => by simp [subst_Get.l0] at h
 | k + 1 => by
  have ih0 := subst_Get.mono_l k
  ·intro y0 y1 y2 y3
   unfold subst_Get.l0
   repeat' first
   | (with_reducible exact ih0 _ _ _ _)
   | (with_reducible exact LeO.refl _)
   | (with_reducible exact LeO.none _)
   | (with_reducible refine LeO.ite ?_ ?_)
   | (with_reducible refine LeO.bind ?_ (fun _ => ?_))
theorem subst_Get.mono : ∀ a0 a1 k, LeO (subst_Get.f k a0 a1) (subst_Get.f (k + 1) a0 a1) := by
 intro a0 a1 k
 have ih0 := subst_Get.mono_l k
 unfold subst_Get.f
 repeat' first
   | (with_reducible exact ih0 _ _ _ _)
   | (with_reducible exact LeO.refl _)
   | (with_reducible exact LeO.none _)
   | (with_reducible refine LeO.ite ?_ ?_)
   | (with_reducible refine LeO.bind ?_ (fun _ => ?_))
set_option maxHeartbeats 8000000 in
set_option maxRecDepth 100000 in
theorem subst_Get.calls (k : Nat) (A0 : Option Addr) (c0 : Nat) (l0 : List (S39)) (a1 : ByteArray) (r1 : Int) (r2 : Int) (r3 : ByteArray) (r4 : Bool) (w : World) (hr0 : Kd.C k39 w A0 l0.length l0) (hc0 : l0.length ≤ c0) (h : subst_Get.f k l0 a1 = some (r1, r2, r3, r4)) :
  Calls Try.prog 17 #[.slice A0 l0.length c0, .string a1] w fun e w' => e = .returned (.tuple #[.agg #[.int .i64 r1, .int .i64 r2, .string r3], .bool r4]) ∧ Below w.heap.size w w' := by
 have hu24 := Try.underlying24
 have hu39 := Try.underlying39
 have HR0 := Aside0.mk hr0
 have HC0 := Aside0.mk hc0
 clear hr0 hc0
 have HB := Aside0.mk (Below.refl w.heap.size w)
 have H : (subst_Get.l0 k a1 l0 (l0.length : Int) 0) = some (r1, r2, r3, r4) := h
 clear h
 have H' := Aside0.mk H
 clear H
 go_enter Try.func17, Try.ntmps17
 go_wp2_with (first | ((with_reducible refine gate_dst (N := 4) rfl ?_); refine bE (N := 4) (cs := #[.int .i64 0, .int .i64 0, .string (⟨#[]⟩ : ByteArray)]) (t := 24) ?_; intro gb106 hg w3 hbox hb; have n0_ := Aside0.mk (below_step bB0 hb); have n1_ := Aside0.mk (hbox); have n2_ := Aside0.mk ((by rw [hg]; exact (below_size bB0) : w.heap.size ≤ gb106)); have n3_ := Aside0.mk ((by rw [hg]; exact (below_size bB0) : w.heap.size ≤ gb106)); clear HB; have HB := n0_; have BK106 := n1_; have GW106 := n2_; have GE106 := n3_; clear n0_ n1_ n2_ n3_; clear hb hbox hg))
 go_loopg [10] k (fun kq v10 w' => ∃ (x10_1 : Int) (x107000_1 : Int) (x107001_1 : Int) (x107002_1 : ByteArray), v10 = .int .i64 x10_1 ∧ Aside0 (subst_Get.l0 kq a1 l0 (l0.length : Int) x10_1 = some (r1, r2, r3, r4)) ∧ Aside0 (kq ≤ k) ∧ Aside0 (w'.heap[gb106]? = some (.cells #[.int .i64 x107000_1, .int .i64 x107001_1, .string x107002_1] 24 (0, 0))) ∧ Aside0 (Below w.heap.size w w'))
 case atStart => exact ⟨(0), (0), (0), ((⟨#[]⟩ : ByteArray)), (by first | rfl | (simp; done) | (simp [*]; done)), H', ⟨Nat.le_refl _⟩, ⟨by refine bk ?_; exact BK106.out⟩, ⟨(bB1 GE106.out)⟩⟩
 case round =>
  clear H'
  (try clear c1); (try clear p2)
  obtain ⟨x10_1, x107000_1, x107001_1, x107002_1, rfl, HA, HK1, BK106, HB⟩ := hrel
  cases gk with
  | zero => exact absurd HA.out (by simp [subst_Get.l0])
  | succ k1 =>
   have H := HA.out
   clear HA
   simp only [subst_Get.l0] at H
   by_cases c4 : x10_1 < (l0.length : Int)
   ·rw [if_pos c4] at H
    have c4b0 : decide (x10_1 < (l0.length : Int)) = true := decide_eq_true c4
    clear c4
    by_cases c5 : 0 ≤ x10_1
    ·rw [if_pos c5] at H
     have c5b0 : decide (0 ≤ x10_1) = true := decide_eq_true c5
     clear c5
     by_cases c6 : x10_1 < (l0.length : Int)
     ·rw [if_pos c6] at H
      have c6b0 : decide (x10_1 < (l0.length : Int)) = true := decide_eq_true c6
      clear c6
      by_cases c7 : ((rd_T39 l0 x10_1).f0).toList = a1.toList
      ·rw [if_pos c7] at H
       have c7b0 : (((rd_T39 l0 x10_1).f0).toList == a1.toList) = true := beq_iff_eq.mpr c7
       have c7b1 : (((rd_T39 l0 x10_1).f0).toList != a1.toList) = false := bne_eq_false_iff_eq.mpr c7
       clear c7
       simp only [Option.some.injEq, Prod.mk.injEq] at H
       obtain ⟨rfl, rfl, rfl, rfl⟩ := H
       have p107 : 0 ≤ (x10_1 : Int) := of_decide_eq_true (by first | (with_reducible assumption) | assumption)
       have q107 : x10_1 < (l0.length : Int) := of_decide_eq_true (by first | (with_reducible assumption) | assumption)
       obtain ⟨ad107, e107, hx107_0, hx107_1, hx107_2, hx107_3⟩ := at_T39 HR0.out x10_1 p107 q107
       cases e107
       replace hx107_0 := (HB.out.cell (World.block_lt_of_cell? w _ hx107_0)).trans hx107_0
       replace hx107_1 := (HB.out.cell (World.block_lt_of_cell? w _ hx107_1)).trans hx107_1
       replace hx107_2 := (HB.out.cell (World.block_lt_of_cell? w _ hx107_2)).trans hx107_2
       replace hx107_3 := (HB.out.cell (World.block_lt_of_cell? w _ hx107_3)).trans hx107_3
       replace p107 := eq_true p107
       replace q107 := eq_true q107
       go_wp2_with (first | ((with_reducible refine gate_dst (N := 7) rfl ?_); refine bE (N := 7) (cs := #[.string (⟨#[]⟩ : ByteArray), .int .i64 0, .int .i64 0, .string (⟨#[]⟩ : ByteArray)]) (t := 39) ?_; intro gb108 hg w8 hbox hb; have n0_ := Aside0.mk (blk_below (g := gb106) (o := .cells #[.int .i64 x107000_1, .int .i64 x107001_1, .string x107002_1] 24 (0, 0)) (by refine bk ?_; exact BK106.out) hb); have n1_ := Aside0.mk (below_step (bB1 GE106.out) hb); have n2_ := Aside0.mk (hbox); have n3_ := Aside0.mk ((by rw [hg]; exact (below_size (bB1 GE106.out)) : w.heap.size ≤ gb108)); have n4_ := Aside0.mk ((by rw [hg]; exact (below_size (bB1 GE106.out)) : w.heap.size ≤ gb108)); have n5_ := Aside0.mk ((by rw [hg]; exact Nat.ne_of_lt (blk_lt (g := gb106) (o := .cells #[.int .i64 x107000_1, .int .i64 x107001_1, .string x107002_1] 24 (0, 0)) (by refine bk ?_; exact BK106.out)) : gb106 ≠ gb108)); have n6_ := Aside0.mk ((by rw [hg]; exact Nat.ne_of_gt (blk_lt (g := gb106) (o := .cells #[.int .i64 x107000_1, .int .i64 x107001_1, .string x107002_1] 24 (0, 0)) (by refine bk ?_; exact BK106.out)) : gb108 ≠ gb106)); clear BK106; clear HB; have BK106 := n0_; have HB := n1_; have BK108 := n2_; have GW108 := n3_; have GE108 := n4_; have NB106_108 := n5_; have NB108_106 := n6_; clear n0_ n1_ n2_ n3_ n4_ n5_ n6_; clear hb hbox hg; have hnb9 := NB108_106.out; have hnc9 := NB106_108.out; have hcz10_0 : w8.cell? ⟨gb108, 0, none⟩ = some (.string (⟨#[]⟩ : ByteArray)) := (blk_cell BK108.out 0).trans rfl; have hcz10_1 : w8.cell? ⟨gb108, 1, none⟩ = some (.int .i64 0) := (blk_cell BK108.out 1).trans rfl; have hcz10_2 : w8.cell? ⟨gb108, 2, none⟩ = some (.int .i64 0) := (blk_cell BK108.out 2).trans rfl; have hcz10_3 : w8.cell? ⟨gb108, 3, none⟩ = some (.string (⟨#[]⟩ : ByteArray)) := (blk_cell BK108.out 3).trans rfl; have hfz10_0 := blk_frozen BK108.out 0; have hfz10_1 := blk_frozen BK108.out 1; have hfz10_2 := blk_frozen BK108.out 2; have hfz10_3 := blk_frozen BK108.out 3; have hcz11_0 : w8.cell? ⟨gb106, 0, none⟩ = some (.int .i64 x107000_1) := (blk_cell BK106.out 0).trans rfl; have hcz11_1 : w8.cell? ⟨gb106, 1, none⟩ = some (.int .i64 x107001_1) := (blk_cell BK106.out 1).trans rfl; have hcz11_2 : w8.cell? ⟨gb106, 2, none⟩ = some (.string x107002_1) := (blk_cell BK106.out 2).trans rfl; have hfz11_0 := blk_frozen BK106.out 0; have hfz11_1 := blk_frozen BK106.out 1; have hfz11_2 := blk_frozen BK106.out 2))
       refine bodyPost_ret (results_ct rfl _ _ gb106 24 #[.int .i64 ((rd_T39 l0 x10_1).f1.f0), .int .i64 ((rd_T39 l0 x10_1).f1.f1), .string ((rd_T39 l0 x10_1).f1.f2)] (0, 0) _ rfl (by refine bk ?_; refine blk_put (cs := #[.int .i64 ((rd_T39 l0 x10_1).f1.f0), .int .i64 ((rd_T39 l0 x10_1).f1.f1), .string x107002_1]) ?_ 2 _ rfl; refine bk ?_; refine blk_put (cs := #[.int .i64 ((rd_T39 l0 x10_1).f1.f0), .int .i64 x107001_1, .string x107002_1]) ?_ 1 _ rfl; refine bk ?_; refine blk_put (cs := #[.int .i64 x107000_1, .int .i64 x107001_1, .string x107002_1]) ?_ 0 _ rfl; refine bk ?_; refine blk_far ?_ NB106_108.out _; refine bk ?_; refine blk_far ?_ NB106_108.out _; refine bk ?_; refine blk_far ?_ NB106_108.out _; refine bk ?_; refine blk_far ?_ NB106_108.out _; refine bk ?_; exact BK106.out) Try.underlying24 rfl (by kernel_rfl)) rfl ?_
       exact ⟨eW, (bB2 GE106.out GE108.out)⟩
      ·rw [if_neg c7] at H
       have c7b0 : (((rd_T39 l0 x10_1).f0).toList == a1.toList) = false := beq_eq_false_iff_ne.mpr c7
       have c7b1 : (((rd_T39 l0 x10_1).f0).toList != a1.toList) = true := bne_iff_ne.mpr c7
       have H' := Aside0.mk H
       clear H
       have p107 : 0 ≤ (x10_1 : Int) := of_decide_eq_true (by first | (with_reducible assumption) | assumption)
       have q107 : x10_1 < (l0.length : Int) := of_decide_eq_true (by first | (with_reducible assumption) | assumption)
       obtain ⟨ad107, e107, hx107_0, hx107_1, hx107_2, hx107_3⟩ := at_T39 HR0.out x10_1 p107 q107
       cases e107
       replace hx107_0 := (HB.out.cell (World.block_lt_of_cell? w _ hx107_0)).trans hx107_0
       replace hx107_1 := (HB.out.cell (World.block_lt_of_cell? w _ hx107_1)).trans hx107_1
       replace hx107_2 := (HB.out.cell (World.block_lt_of_cell? w _ hx107_2)).trans hx107_2
       replace hx107_3 := (HB.out.cell (World.block_lt_of_cell? w _ hx107_3)).trans hx107_3
       replace p107 := eq_true p107
       replace q107 := eq_true q107
       go_wp2_with (first | ((with_reducible refine gate_dst (N := 7) rfl ?_); refine bE (N := 7) (cs := #[.string (⟨#[]⟩ : ByteArray), .int .i64 0, .int .i64 0, .string (⟨#[]⟩ : ByteArray)]) (t := 39) ?_; intro gb108 hg w12 hbox hb; have n0_ := Aside0.mk (blk_below (g := gb106) (o := .cells #[.int .i64 x107000_1, .int .i64 x107001_1, .string x107002_1] 24 (0, 0)) (by refine bk ?_; exact BK106.out) hb); have n1_ := Aside0.mk (below_step (bB1 GE106.out) hb); have n2_ := Aside0.mk (hbox); have n3_ := Aside0.mk ((by rw [hg]; exact (below_size (bB1 GE106.out)) : w.heap.size ≤ gb108)); have n4_ := Aside0.mk ((by rw [hg]; exact (below_size (bB1 GE106.out)) : w.heap.size ≤ gb108)); have n5_ := Aside0.mk ((by rw [hg]; exact Nat.ne_of_lt (blk_lt (g := gb106) (o := .cells #[.int .i64 x107000_1, .int .i64 x107001_1, .string x107002_1] 24 (0, 0)) (by refine bk ?_; exact BK106.out)) : gb106 ≠ gb108)); have n6_ := Aside0.mk ((by rw [hg]; exact Nat.ne_of_gt (blk_lt (g := gb106) (o := .cells #[.int .i64 x107000_1, .int .i64 x107001_1, .string x107002_1] 24 (0, 0)) (by refine bk ?_; exact BK106.out)) : gb108 ≠ gb106)); clear BK106; clear HB; have BK106 := n0_; have HB := n1_; have BK108 := n2_; have GW108 := n3_; have GE108 := n4_; have NB106_108 := n5_; have NB108_106 := n6_; clear n0_ n1_ n2_ n3_ n4_ n5_ n6_; clear hb hbox hg; have hnb13 := NB108_106.out; have hnc13 := NB106_108.out; have hcz14_0 : w12.cell? ⟨gb108, 0, none⟩ = some (.string (⟨#[]⟩ : ByteArray)) := (blk_cell BK108.out 0).trans rfl; have hcz14_1 : w12.cell? ⟨gb108, 1, none⟩ = some (.int .i64 0) := (blk_cell BK108.out 1).trans rfl; have hcz14_2 : w12.cell? ⟨gb108, 2, none⟩ = some (.int .i64 0) := (blk_cell BK108.out 2).trans rfl; have hcz14_3 : w12.cell? ⟨gb108, 3, none⟩ = some (.string (⟨#[]⟩ : ByteArray)) := (blk_cell BK108.out 3).trans rfl; have hfz14_0 := blk_frozen BK108.out 0; have hfz14_1 := blk_frozen BK108.out 1; have hfz14_2 := blk_frozen BK108.out 2; have hfz14_3 := blk_frozen BK108.out 3))
       go_roundg k1
       case measure => have := HK1.out; omega
       case rel => exact ⟨(wrap64 (x10_1 + 1)), (x107000_1), (x107001_1), (x107002_1), (by first | rfl | (simp; done) | (simp [*]; done)), H', ⟨by have := HK1.out; omega⟩, ⟨by refine bk ?_; refine blk_far ?_ NB106_108.out _; refine bk ?_; refine blk_far ?_ NB106_108.out _; refine bk ?_; refine blk_far ?_ NB106_108.out _; refine bk ?_; refine blk_far ?_ NB106_108.out _; refine bk ?_; exact BK106.out⟩, ⟨(bB2 GE106.out GE108.out)⟩⟩
     ·rw [if_neg c6] at H
      exact absurd H (by simp)
    ·rw [if_neg c5] at H
     exact absurd H (by simp)
   ·rw [if_neg c4] at H
    have c4b0 : decide (x10_1 < (l0.length : Int)) = false := decide_eq_false c4
    clear c4
    simp only [Option.some.injEq, Prod.mk.injEq] at H
    obtain ⟨rfl, rfl, rfl, rfl⟩ := H
    have hcz15_0 : wr.cell? ⟨gb106, 0, none⟩ = some (.int .i64 x107000_1) := (blk_cell BK106.out 0).trans rfl
    have hcz15_1 : wr.cell? ⟨gb106, 1, none⟩ = some (.int .i64 x107001_1) := (blk_cell BK106.out 1).trans rfl
    have hcz15_2 : wr.cell? ⟨gb106, 2, none⟩ = some (.string x107002_1) := (blk_cell BK106.out 2).trans rfl
    have hfz15_0 := blk_frozen BK106.out 0
    have hfz15_1 := blk_frozen BK106.out 1
    have hfz15_2 := blk_frozen BK106.out 2
    go_wp2
    refine bodyPost_ret (results_ct rfl _ _ gb106 24 #[.int .i64 0, .int .i64 0, .string (⟨#[]⟩ : ByteArray)] (0, 0) _ rfl (by refine bk ?_; refine blk_put (cs := #[.int .i64 0, .int .i64 0, .string x107002_1]) ?_ 2 _ rfl; refine bk ?_; refine blk_put (cs := #[.int .i64 0, .int .i64 x107001_1, .string x107002_1]) ?_ 1 _ rfl; refine bk ?_; refine blk_put (cs := #[.int .i64 x107000_1, .int .i64 x107001_1, .string x107002_1]) ?_ 0 _ rfl; refine bk ?_; exact BK106.out) Try.underlying24 rfl (by kernel_rfl)) rfl ?_
    exact ⟨eW, (bB1 GE106.out)⟩

end Go.Proofs.Ytghommaokdhjmaa.P
namespace Go.Proofs.Ytghommaokdhjmaa.P
open Go.RowKit Go.Proofs.YtghommaokdhjmaaW.PrintWords Go.Proofs.YtghommaokdhjmaaW.PrintLast Go.Proofs.YtghommaokdhjmaaW.PrintMore Go.Proofs.Ytghommaokdhjmaa.Gate
set_option linter.unusedVariables false
set_option linter.unusedSimpArgs false

attribute [local go_sem high] eqA39
/-! ### constablekeep_Binds: function 23 -/
def constablekeep_Binds.l0 : Nat → List (S39) → List (S39) → Int → Option (Bool)
 | 0, _, _, _ => none
 | k + 1, x0, x1, x5 => if x5 < (x0.length : Int) then (if 0 ≤ x5 then (if x5 < (x1.length : Int) then (if (!((((rd_T39 x0 x5).f0).toList) == (((rd_T39 x1 x5).f0).toList)) || ((!(((rd_T39 x0 x5).f1.f0) == ((rd_T39 x1 x5).f1.f0)) || (!(((rd_T39 x0 x5).f1.f1) == ((rd_T39 x1 x5).f1.f1)) || (!((((rd_T39 x0 x5).f1.f2).toList) == (((rd_T39 x1 x5).f1.f2).toList))))))) = true then (some false) else (constablekeep_Binds.l0 k x0 x1 (wrap64 (x5 + 1)))) else (none)) else (none)) else (some true)
def constablekeep_Binds.f (k : Nat) (l0 : List (S39)) (l1 : List (S39)) : Option (Bool) := if (l0.length : Int) = (l1.length : Int) then (constablekeep_Binds.l0 k l0 l1 0) else (some false)
theorem constablekeep_Binds.mono_l : ∀ k, (∀ y0 y1 y2, LeO (constablekeep_Binds.l0 k y0 y1 y2) (constablekeep_Binds.l0 (k + 1) y0 y1 y2))
 | 0 => fun _ _ _ r h => by simp [constablekeep_Binds.l0] at h
 | k + 1 => by
  have ih0 := constablekeep_Binds.mono_l k
  ·intro y0 y1 y2
   unfold constablekeep_Binds.l0
   repeat' first
   | (with_reducible exact ih0 _ _ _)
   | (with_reducible exact LeO.refl _)
   | (with_reducible exact LeO.none _)
   | (with_reducible refine LeO.ite ?_ ?_)
   | (with_reducible refine LeO.bind ?_ (fun _ => ?_))
theorem constablekeep_Binds.mono : ∀ a0 a1 k, LeO (constablekeep_Binds.f k a0 a1) (constablekeep_Binds.f (k + 1) a0 a1) := by
 intro a0 a1 k
 have ih0 := constablekeep_Binds.mono_l k
 unfold constablekeep_Binds.f
 repeat' first
   | (with_reducible exact ih0 _ _ _)
   | (with_reducible exact LeO.refl _)
   | (with_reducible exact LeO.none _)
   | (with_reducible refine LeO.ite ?_ ?_)
   | (with_reducible refine LeO.bind ?_ (fun _ => ?_))
set_option maxHeartbeats 8000000 in
set_option maxRecDepth 100000 in
theorem constablekeep_Binds.calls (k : Nat) (A0 : Option Addr) (c0 : Nat) (l0 : List (S39)) (A1 : Option Addr) (c1 : Nat) (l1 : List (S39)) (r : Bool) (w : World) (hr0 : Kd.C k39 w A0 l0.length l0) (hc0 : l0.length ≤ c0) (hr1 : Kd.C k39 w A1 l1.length l1) (hc1 : l1.length ≤ c1) (h : constablekeep_Binds.f k l0 l1 = some r) :
  Calls Try.prog 23 #[.slice A0 l0.length c0, .slice A1 l1.length c1] w fun e w' => e = .returned (.bool r) ∧ Drawn0 w w' := by
 have hu39 := Try.underlying39
 have HR0 := Aside0.mk hr0
 have HC0 := Aside0.mk hc0
 clear hr0 hc0
 have HR1 := Aside0.mk hr1
 have HC1 := Aside0.mk hc1
 clear hr1 hc1
 have H : (if (l0.length : Int) = (l1.length : Int) then (constablekeep_Binds.l0 k l0 l1 0) else (some false)) = some r := h
 clear h
 by_cases c3 : (l0.length : Int) = (l1.length : Int)
 ·rw [if_pos c3] at H
  have c3b0 : ((l0.length : Int) == (l1.length : Int)) = true := beq_iff_eq.mpr c3
  have c3b1 : ((l0.length : Int) != (l1.length : Int)) = false := bne_eq_false_iff_eq.mpr c3
  have c3b2 : (l0.length == l1.length) = true := by first | simpa using c3 | (simp at c3 ⊢; omega)
  clear c3
  have H' := Aside0.mk H
  clear H
  go_enter Try.func23, Try.ntmps23
  go_wp2
  repeat (go_quiet (fail); try go_wp2)
  go_loopg [5] k (fun kq v5 w' => ∃ (x5_1 : Int), v5 = .int .i64 x5_1 ∧ Aside0 (constablekeep_Binds.l0 kq l0 l1 x5_1 = some r) ∧ Aside0 (kq ≤ k) ∧ Drawn0 w w')
  case atStart => exact ⟨(0), (by first | rfl | (simp; done) | (simp [*]; done)), H', ⟨Nat.le_refl _⟩, by repeat (first | exact Drawn0.refl _ | apply Drawn0.step)⟩
  case round =>
   clear H'
   (try clear c1); (try clear c2); (try clear p2); (try clear c3); (try clear c3b0); (try clear c3b1); (try clear c3b2)
   obtain ⟨x5_1, rfl, HA, HK1, ⟨m1, rfl⟩⟩ := hrel
   cases gk with
   | zero => exact absurd HA.out (by simp [constablekeep_Binds.l0])
   | succ k1 =>
    have H := HA.out
    clear HA
    simp only [constablekeep_Binds.l0] at H
    by_cases c4 : x5_1 < (l0.length : Int)
    ·rw [if_pos c4] at H
     have c4b0 : decide (x5_1 < (l0.length : Int)) = true := decide_eq_true c4
     clear c4
     by_cases c5 : 0 ≤ x5_1
     ·rw [if_pos c5] at H
      have c5b0 : decide (0 ≤ x5_1) = true := decide_eq_true c5
      clear c5
      by_cases c6 : x5_1 < (l1.length : Int)
      ·rw [if_pos c6] at H
       have c6b0 : decide (x5_1 < (l1.length : Int)) = true := decide_eq_true c6
       clear c6
       obtain ⟨qc7, hqc7⟩ : ∃ b_ : Bool, (!((((rd_T39 l0 x5_1).f0).toList) == (((rd_T39 l1 x5_1).f0).toList)) || ((!(((rd_T39 l0 x5_1).f1.f0) == ((rd_T39 l1 x5_1).f1.f0)) || (!(((rd_T39 l0 x5_1).f1.f1) == ((rd_T39 l1 x5_1).f1.f1)) || (!((((rd_T39 l0 x5_1).f1.f2).toList) == (((rd_T39 l1 x5_1).f1.f2).toList))))))) = b_ := ⟨_, rfl⟩
       by_cases c7 : (!((((rd_T39 l0 x5_1).f0).toList) == (((rd_T39 l1 x5_1).f0).toList)) || ((!(((rd_T39 l0 x5_1).f1.f0) == ((rd_T39 l1 x5_1).f1.f0)) || (!(((rd_T39 l0 x5_1).f1.f1) == ((rd_T39 l1 x5_1).f1.f1)) || (!((((rd_T39 l0 x5_1).f1.f2).toList) == (((rd_T39 l1 x5_1).f1.f2).toList))))))) = true
       ·rw [if_pos c7] at H
        have c7b0 : qc7 = true := hqc7.symm.trans c7
        clear c7
        obtain rfl := Option.some.inj H
        have p158 : 0 ≤ (x5_1 : Int) := of_decide_eq_true (by first | (with_reducible assumption) | assumption)
        have q158 : x5_1 < (l0.length : Int) := of_decide_eq_true (by first | (with_reducible assumption) | assumption)
        obtain ⟨ad158, e158, hx158_0, hx158_1, hx158_2, hx158_3⟩ := at_T39 HR0.out x5_1 p158 q158
        cases e158
        replace p158 := eq_true p158
        replace q158 := eq_true q158
        have p159 : 0 ≤ (x5_1 : Int) := of_decide_eq_true (by first | (with_reducible assumption) | assumption)
        have q159 : x5_1 < (l1.length : Int) := of_decide_eq_true (by first | (with_reducible assumption) | assumption)
        obtain ⟨ad159, e159, hx159_0, hx159_1, hx159_2, hx159_3⟩ := at_T39 HR1.out x5_1 p159 q159
        cases e159
        replace p159 := eq_true p159
        replace q159 := eq_true q159
        go_wp2
        repeat (go_quiet (fail); try go_wp2)
        go_ret
        exact ⟨by first | rfl | (simp; done) | (simp [*]; done), by repeat (first | exact Drawn0.refl _ | apply Drawn0.step)⟩
       ·rw [if_neg c7] at H
        have c7b0 : qc7 = false := hqc7.symm.trans (Bool.eq_false_iff.mpr c7)
        clear c7
        have H' := Aside0.mk H
        clear H
        have p158 : 0 ≤ (x5_1 : Int) := of_decide_eq_true (by first | (with_reducible assumption) | assumption)
        have q158 : x5_1 < (l0.length : Int) := of_decide_eq_true (by first | (with_reducible assumption) | assumption)
        obtain ⟨ad158, e158, hx158_0, hx158_1, hx158_2, hx158_3⟩ := at_T39 HR0.out x5_1 p158 q158
        cases e158
        replace p158 := eq_true p158
        replace q158 := eq_true q158
        have p159 : 0 ≤ (x5_1 : Int) := of_decide_eq_true (by first | (with_reducible assumption) | assumption)
        have q159 : x5_1 < (l1.length : Int) := of_decide_eq_true (by first | (with_reducible assumption) | assumption)
        obtain ⟨ad159, e159, hx159_0, hx159_1, hx159_2, hx159_3⟩ := at_T39 HR1.out x5_1 p159 q159
        cases e159
        replace p159 := eq_true p159
        replace q159 := eq_true q159
        go_wp2
        repeat (go_quiet (fail); try go_wp2)
        go_roundg k1
        case measure => have := HK1.out; omega
        case rel => exact ⟨(wrap64 (x5_1 + 1)), (by first | rfl | (simp; done) | (simp [*]; done)), H', ⟨by have := HK1.out; omega⟩, by repeat (first | exact Drawn0.refl _ | apply Drawn0.step)⟩
      ·rw [if_neg c6] at H
       exact absurd H (by simp)
     ·rw [if_neg c5] at H
      exact absurd H (by simp)
    ·rw [if_neg c4] at H
     have c4b0 : decide (x5_1 < (l0.length : Int)) = false := decide_eq_false c4
     clear c4
     obtain rfl := Option.some.inj H
     go_wp2
     repeat (go_quiet (fail); try go_wp2)
     go_ret
     exact ⟨by first | rfl | (simp; done) | (simp [*]; done), by repeat (first | exact Drawn0.refl _ | apply Drawn0.step)⟩
 ·rw [if_neg c3] at H
  have c3b0 : ((l0.length : Int) == (l1.length : Int)) = false := beq_eq_false_iff_ne.mpr c3
  have c3b1 : ((l0.length : Int) != (l1.length : Int)) = true := bne_iff_ne.mpr c3
  have c3b2 : (l0.length == l1.length) = false := by first | simpa using c3 | (simp at c3 ⊢; omega)
  obtain rfl := Option.some.inj H
  go_enter Try.func23, Try.ntmps23
  go_wp2
  repeat (go_quiet (fail); try go_wp2)
  go_ret
  exact ⟨by first | rfl | (simp; done) | (simp [*]; done), by repeat (first | exact Drawn0.refl _ | apply Drawn0.step)⟩

end Go.Proofs.Ytghommaokdhjmaa.P
/- The printed functions of layer 5 and of its statements answer their plain forms from some number of rounds on; texts no longer than a million bytes. -/
set_option linter.unusedVariables false
set_option linter.unusedSimpArgs false
namespace Go.Proofs.Ytghommaokdhjmaa.SpecB
open Go.Shelf Go.RowKit Go.Lib Go.Sort Go.Proofs.SymP Go.Proofs.YtghommaokdhjmaaW.PrintWords Go.Proofs.YtghommaokdhjmaaW.PrintLast Go.Proofs.YtghommaokdhjmaaW.PrintMore Go.Proofs.Ytghommaokdhjmaa.Gate Go.Proofs.Ytghommaokdhjmaa.P Go.Proofs.Ytghommaokdhjmaa.Str Go.Proofs.Ytghommaokdhjmaa.PSpec Go.Proofs.Ytghommaokdhjmaa.BothB
theorem tl_iff (a b : ByteArray) : a.toList = b.toList ↔ a = b := by rw [← bytes_beq_iff, beq_iff_eq]
theorem tl_beq (a b : ByteArray) : (a.toList == b.toList) = decide (a = b) := by
  by_cases h : a = b
  · subst h; simp
  · rw [decide_eq_false h, beq_eq_false_iff_ne]; exact fun e => h ((tl_iff a b).1 e)
theorem ev_const {α : Type} {a : Option α} {r : α} (h : a = some r) : Ev (fun _ => a) r := ⟨0, fun _ _ => h⟩
theorem ev_check {l : List S39} (h : fitB l = true) : Ev (fun k => subst_Check.f k l) (chkP l) := Ev.of (fun k => subst_Check.mono l k) (chkP_eq l h)
theorem both_eq {a b : List S39} (ha : fitB a = true) (hb : fitB b = true) : subst_Both.f a b = some (bothP a b) := if_pos ⟨ha, hb⟩
theorem fit_one {x : S39} (h1 : x.f0.size ≤ 1000000) (h2 : x.f1.f2.size ≤ 1000000) : fitB [x] = true := by simp [fitB, h1, h2]
theorem fit_nil : fitB [] = true := rfl
theorem fit_sub {l m : List S39} (h : fitB l = true) (hs : ∀ x ∈ m, x ∈ l) : fitB m = true := List.all_eq_true.2 fun x hx => List.all_eq_true.1 h x (hs x hx)
theorem fit_mem {l : List S39} : fitB l = true ↔ ∀ x ∈ l, x.f0.size ≤ 1000000 ∧ x.f1.f2.size ≤ 1000000 := by
  unfold fitB
  rw [List.all_eq_true]
  simp only [Bool.and_eq_true, decide_eq_true_eq]
theorem ev_put {l : List S39} (h : fitB l = true) (n : ByteArray) (a b : Int) (s : ByteArray) (h1 : n.size ≤ 1000000) (h2 : s.size ≤ 1000000) : Ev (fun k => subst_Put.f k l n a b s) (putP l ⟨n, ⟨a, b, s⟩⟩) := by
  refine ⟨1000400, fun k hk => ?_⟩
  unfold subst_Put.f putP
  dsimp only
  rw [show subst_right.f k n a b s = some (rightP ⟨n, ⟨a, b, s⟩⟩) from rightP_eq ⟨n, ⟨a, b, s⟩⟩ h2 k (by show s.size + 40 ≤ k; omega), Option.bind_some, both_eq h (fit_one (x := ⟨n, ⟨a, b, s⟩⟩) h1 h2)]
  cases rightP ⟨n, ⟨a, b, s⟩⟩ <;> rfl
theorem get_loop (l : List S39) (n : ByteArray) (hl : l.length ≤ 1000000) : ∀ (m i : Nat), i + m = l.length → Ev (fun k => subst_Get.l0 k n l (l.length : Int) i) (getP (l.drop i) n) := by
  intro m
  induction m with
  | zero =>
    intro i h
    refine Ev.step (fun k => by rw [subst_Get.l0, if_neg (by omega)]) ?_
    rw [List.drop_eq_nil_of_le (by omega)]
    exact Ev.now _
  | succ m ih =>
    intro i h
    have hi : i < l.length := by omega
    refine Ev.step (fun k => by rw [subst_Get.l0, if_pos (by omega), if_pos (by omega), if_pos (by omega), rd_get hi, w64 hl hi]) ?_
    rw [List.drop_eq_getElem_cons hi, getP]
    by_cases e : l[i].f0 = n
    · simp only [if_pos ((tl_iff _ _).2 e), if_pos e]; exact Ev.now _
    · simp only [if_neg (fun h => e ((tl_iff _ _).1 h)), if_neg e]; exact ih (i + 1) (by omega)
theorem ev_get {l : List S39} (hl : l.length ≤ 1000000) (n : ByteArray) : Ev (fun k => subst_Get.f k l n) (getP l n) := by
  unfold subst_Get.f
  exact get_loop l n hl l.length 0 (by omega)
theorem binds_loop (a b : List S39) (hl : a.length ≤ 1000000) (he : a.length = b.length) : ∀ (m i : Nat), i + m = a.length → Ev (fun k => constablekeep_Binds.l0 k a b i) (decide (a.drop i = b.drop i)) := by
  intro m
  induction m with
  | zero =>
    intro i h
    refine Ev.step (fun k => by rw [constablekeep_Binds.l0, if_neg (by omega)]) ?_
    rw [List.drop_eq_nil_of_le (by omega), List.drop_eq_nil_of_le (by omega)]
    exact Ev.now _
  | succ m ih =>
    intro i h
    have hi : i < a.length := by omega
    have hj : i < b.length := by omega
    have hc : (!(a[i].f0.toList == b[i].f0.toList) || ((!(a[i].f1.f0 == b[i].f1.f0) || (!(a[i].f1.f1 == b[i].f1.f1) || (!(a[i].f1.f2.toList == b[i].f1.f2.toList)))))) = !decide (a[i] = b[i]) := by
      rw [← same_dec]
      unfold sameB
      simp only [Bool.not_and]
    refine Ev.step (fun k => by rw [constablekeep_Binds.l0, if_pos (by omega), if_pos (by omega), if_pos (by omega), rd_get hi, rd_get hj, hc, w64 hl hi]) ?_
    rw [List.drop_eq_getElem_cons hi, List.drop_eq_getElem_cons hj]
    by_cases e : a[i] = b[i]
    · simp only [e, decide_true, Bool.not_true, if_neg (show ¬ (false = true) by decide), List.cons.injEq, true_and]; exact ih (i + 1) (by omega)
    · simp only [e, decide_false, Bool.not_false, if_true, List.cons.injEq, false_and]; exact Ev.now _
theorem ev_binds {a : List S39} (hl : a.length ≤ 1000000) (b : List S39) : Ev (fun k => constablekeep_Binds.f k a b) (decide (a = b)) := by
  unfold constablekeep_Binds.f
  by_cases h : a.length = b.length
  · simp only [if_pos (show (a.length : Int) = (b.length : Int) by omega)]
    exact binds_loop a b hl h a.length 0 (by omega)
  · simp only [if_neg (show ¬ (a.length : Int) = (b.length : Int) by omega)]
    rw [decide_eq_false (fun e => h (by rw [e]))]
    exact Ev.now _
theorem right_len {l : List S39} (h : chkP l = 0) : l.length ≤ 100 := ((right_iff l).1 h).1
theorem right_at {l : List S39} (h : chkP l = 0) {x : S39} (hx : x ∈ l) : rightP x = true := ((right_iff l).1 h).2.1 x hx
theorem with_fit {l m : List S39} {x : S39} (h : With l x m) (hl : fitB l = true) (h1 : x.f0.size ≤ 1000000) (h2 : x.f1.f2.size ≤ 1000000) : fitB m = true :=
  fit_mem.2 fun y hy => by
    rcases (h.2.2.2 y).1 hy with hy | rfl
    · exact fit_mem.1 hl y hy
    · exact ⟨h1, h2⟩
def bX1 : S39 := ⟨⟨#[88]⟩, ⟨1, 1, ⟨#[]⟩⟩⟩
theorem ne_toList : (⟨#[]⟩ : ByteArray).toList = ([] : List UInt8) := by rw [ByteArray.toList_eq]
theorem valP_int {n : Int} (h1 : -4611686018427387904 ≤ n) (h2 : n ≤ 4611686018427387904) : valP 1 n ⟨#[]⟩ = 0 := by
  unfold valP
  rw [if_pos rfl, if_pos (by omega), if_pos (by omega), if_pos ne_toList]
end Go.Proofs.Ytghommaokdhjmaa.SpecB
namespace Go.Proofs.Ytghommaokdhjmaa.P
open Go.RowKit Go.Proofs.YtghommaokdhjmaaW.PrintWords Go.Proofs.YtghommaokdhjmaaW.PrintLast Go.Proofs.YtghommaokdhjmaaW.PrintMore Go.Proofs.Ytghommaokdhjmaa.Gate
set_option linter.unusedVariables false
set_option linter.unusedSimpArgs false

/-! ### constablelaw05_Heavy: function 15 -/
def constablelaw05_Heavy.l0 : Nat → List (S39) → Int → Option (Bool)
 | 0, _, _ => none
 | k + 1, x0, x3 => if x3 < (x0.length : Int) then (if 0 ≤ x3 then (if (((rd_T39 x0 x3).f0).size : Int) > 200 then (some true) else (if (((rd_T39 x0 x3).f1.f2).size : Int) > 200 then (some true) else (constablelaw05_Heavy.l0 k x0 (wrap64 (x3 + 1))))) else (none)) else (some false)
def constablelaw05_Heavy.f (k : Nat) (l0 : List (S39)) : Option (Bool) := if (l0.length : Int) > 110 then (some true) else (constablelaw05_Heavy.l0 k l0 0)
theorem constablelaw05_Heavy.mono_l : ∀ k, (∀ y0 y1, LeO (constablelaw05_Heavy.l0 k y0 y1) (constablelaw05_Heavy.l0 (k + 1) y0 y1))
 | 0 => fun _ _ r h => by simp [constablelaw05_Heavy.l0] at h
 | k + 1 => by
  have ih0 := constablelaw05_Heavy.mono_l k
  ·intro y0 y1
   unfold constablelaw05_Heavy.l0
   repeat' first
   | (with_reducible exact ih0 _ _)
   | (with_reducible exact LeO.refl _)
   | (with_reducible exact LeO.none _)
   | (with_reducible refine LeO.ite ?_ ?_)
   | (with_reducible refine LeO.bind ?_ (fun _ => ?_))
theorem constablelaw05_Heavy.mono : ∀ a0 k, LeO (constablelaw05_Heavy.f k a0) (constablelaw05_Heavy.f (k + 1) a0) := by
 intro a0 k
 have ih0 := constablelaw05_Heavy.mono_l k
 unfold constablelaw05_Heavy.f
 repeat' first
   | (with_reducible exact ih0 _ _)
   | (with_reducible exact LeO.refl _)
   | (with_reducible exact LeO.none _)
   | (with_reducible refine LeO.ite ?_ ?_)
   | (with_reducible refine LeO.bind ?_ (fun _ => ?_))
set_option maxHeartbeats 8000000 in
set_option maxRecDepth 100000 in
theorem constablelaw05_Heavy.calls (k : Nat) (A0 : Option Addr) (c0 : Nat) (l0 : List (S39)) (r : Bool) (w : World) (hr0 : Kd.C k39 w A0 l0.length l0) (hc0 : l0.length ≤ c0) (h : constablelaw05_Heavy.f k l0 = some r) :
  Calls Try.prog 15 #[.slice A0 l0.length c0] w fun e w' => e = .returned (.bool r) ∧ Drawn0 w w' := by
 have HR0 := Aside0.mk hr0
 have HC0 := Aside0.mk hc0
 clear hr0 hc0
 have H : (if (l0.length : Int) > 110 then (some true) else (constablelaw05_Heavy.l0 k l0 0)) = some r := h
 clear h
 by_cases c2 : (l0.length : Int) > 110
 ·rw [if_pos c2] at H
  have c2b0 : decide (110 < (l0.length : Int)) = true := decide_eq_true c2
  have c2b1 : decide (110 < l0.length) = true := decide_eq_true (by omega)
  clear c2
  obtain rfl := Option.some.inj H
  go_enter Try.func15, Try.ntmps15
  go_wp2
  go_ret
  exact ⟨by first | rfl | (simp; done) | (simp [*]; done), by repeat (first | exact Drawn0.refl _ | apply Drawn0.step)⟩
 ·rw [if_neg c2] at H
  have c2b0 : decide (110 < (l0.length : Int)) = false := decide_eq_false c2
  have c2b1 : decide (110 < l0.length) = false := decide_eq_false (by omega)
  clear c2
  have H' := Aside0.mk H
  clear H
  go_enter Try.func15, Try.ntmps15
  go_wp2
  go_loopg [3] k (fun kq v3 w' => ∃ (x3_1 : Int), v3 = .int .i64 x3_1 ∧ Aside0 (constablelaw05_Heavy.l0 kq l0 x3_1 = some r) ∧ Aside0 (kq ≤ k) ∧ Drawn0 w w')
  case atStart => exact ⟨(0), (by first | rfl | (simp; done) | (simp [*]; done)), H', ⟨Nat.le_refl _⟩, by repeat (first | exact Drawn0.refl _ | apply Drawn0.step)⟩
  case round =>
   clear H'
   (try clear c1); (try clear c2); (try clear c2b0); (try clear c2b1); (try clear p2)
   obtain ⟨x3_1, rfl, HA, HK1, ⟨m1, rfl⟩⟩ := hrel
   cases gk with
   | zero => exact absurd HA.out (by simp [constablelaw05_Heavy.l0])
   | succ k1 =>
    have H := HA.out
    clear HA
    simp only [constablelaw05_Heavy.l0] at H
    by_cases c3 : x3_1 < (l0.length : Int)
    ·rw [if_pos c3] at H
     have c3b0 : decide (x3_1 < (l0.length : Int)) = true := decide_eq_true c3
     clear c3
     by_cases c4 : 0 ≤ x3_1
     ·rw [if_pos c4] at H
      have c4b0 : decide (0 ≤ x3_1) = true := decide_eq_true c4
      clear c4
      by_cases c5 : (((rd_T39 l0 x3_1).f0).size : Int) > 200
      ·rw [if_pos c5] at H
       have c5b0 : decide (200 < (((rd_T39 l0 x3_1).f0).size : Int)) = true := decide_eq_true c5
       have c5b1 : decide (200 < ((rd_T39 l0 x3_1).f0).size) = true := decide_eq_true (by omega)
       clear c5
       obtain rfl := Option.some.inj H
       have p101 : 0 ≤ (x3_1 : Int) := of_decide_eq_true (by first | (with_reducible assumption) | assumption)
       have q101 : x3_1 < (l0.length : Int) := of_decide_eq_true (by first | (with_reducible assumption) | assumption)
       obtain ⟨ad101, e101, hx101_0, hx101_1, hx101_2, hx101_3⟩ := at_T39 HR0.out x3_1 p101 q101
       cases e101
       replace p101 := eq_true p101
       replace q101 := eq_true q101
       go_wp2
       go_ret
       exact ⟨by first | rfl | (simp; done) | (simp [*]; done), by repeat (first | exact Drawn0.refl _ | apply Drawn0.step)⟩
      ·rw [if_neg c5] at H
       have c5b0 : decide (200 < (((rd_T39 l0 x3_1).f0).size : Int)) = false := decide_eq_false c5
       have c5b1 : decide (200 < ((rd_T39 l0 x3_1).f0).size) = false := decide_eq_false (by omega)
       clear c5
       by_cases c6 : (((rd_T39 l0 x3_1).f1.f2).size : Int) > 200
       ·rw [if_pos c6] at H
        have c6b0 : decide (200 < (((rd_T39 l0 x3_1).f1.f2).size : Int)) = true := decide_eq_true c6
        have c6b1 : decide (200 < ((rd_T39 l0 x3_1).f1.f2).size) = true := decide_eq_true (by omega)
        clear c6
        obtain rfl := Option.some.inj H
        have p101 : 0 ≤ (x3_1 : Int) := of_decide_eq_true (by first | (with_reducible assumption) | assumption)
        have q101 : x3_1 < (l0.length : Int) := of_decide_eq_true (by first | (with_reducible assumption) | assumption)
        obtain ⟨ad101, e101, hx101_0, hx101_1, hx101_2, hx101_3⟩ := at_T39 HR0.out x3_1 p101 q101
        cases e101
        replace p101 := eq_true p101
        replace q101 := eq_true q101
        have p102 : 0 ≤ (x3_1 : Int) := of_decide_eq_true (by first | (with_reducible assumption) | assumption)
        have q102 : x3_1 < (l0.length : Int) := of_decide_eq_true (by first | (with_reducible assumption) | assumption)
        obtain ⟨ad102, e102, hx102_0, hx102_1, hx102_2, hx102_3⟩ := at_T39 HR0.out x3_1 p102 q102
        obtain rfl : ad101 = ad102 := (by injection e102)
        replace p102 := eq_true p102
        replace q102 := eq_true q102
        go_wp2
        go_ret
        exact ⟨by first | rfl | (simp; done) | (simp [*]; done), by repeat (first | exact Drawn0.refl _ | apply Drawn0.step)⟩
       ·rw [if_neg c6] at H
        have c6b0 : decide (200 < (((rd_T39 l0 x3_1).f1.f2).size : Int)) = false := decide_eq_false c6
        have c6b1 : decide (200 < ((rd_T39 l0 x3_1).f1.f2).size) = false := decide_eq_false (by omega)
        clear c6
        have H' := Aside0.mk H
        clear H
        have p101 : 0 ≤ (x3_1 : Int) := of_decide_eq_true (by first | (with_reducible assumption) | assumption)
        have q101 : x3_1 < (l0.length : Int) := of_decide_eq_true (by first | (with_reducible assumption) | assumption)
        obtain ⟨ad101, e101, hx101_0, hx101_1, hx101_2, hx101_3⟩ := at_T39 HR0.out x3_1 p101 q101
        cases e101
        replace p101 := eq_true p101
        replace q101 := eq_true q101
        have p102 : 0 ≤ (x3_1 : Int) := of_decide_eq_true (by first | (with_reducible assumption) | assumption)
        have q102 : x3_1 < (l0.length : Int) := of_decide_eq_true (by first | (with_reducible assumption) | assumption)
        obtain ⟨ad102, e102, hx102_0, hx102_1, hx102_2, hx102_3⟩ := at_T39 HR0.out x3_1 p102 q102
        obtain rfl : ad101 = ad102 := (by injection e102)
        replace p102 := eq_true p102
        replace q102 := eq_true q102
        go_wp2
        go_roundg k1
        case measure => have := HK1.out; omega
        case rel => exact ⟨(wrap64 (x3_1 + 1)), (by first | rfl | (simp; done) | (simp [*]; done)), H', ⟨by have := HK1.out; omega⟩, by repeat (first | exact Drawn0.refl _ | apply Drawn0.step)⟩
     ·rw [if_neg c4] at H
      exact absurd H (by simp)
    ·rw [if_neg c3] at H
     have c3b0 : decide (x3_1 < (l0.length : Int)) = false := decide_eq_false c3
     clear c3
     obtain rfl := Option.some.inj H
     go_wp2
     go_ret
     exact ⟨by first | rfl | (simp; done) | (simp [*]; done), by repeat (first | exact Drawn0.refl _ | apply Drawn0.step)⟩

end Go.Proofs.Ytghommaokdhjmaa.P
namespace Go.Proofs.Ytghommaokdhjmaa.P
open Go.RowKit Go.Proofs.YtghommaokdhjmaaW.PrintWords Go.Proofs.YtghommaokdhjmaaW.PrintLast Go.Proofs.YtghommaokdhjmaaW.PrintMore Go.Proofs.Ytghommaokdhjmaa.Gate
set_option linter.unusedVariables false
set_option linter.unusedSimpArgs false

/-! ### constablelaw05_wakes: function 28 -/
def constablelaw05_wakes.f (k : Nat)  : Option (Bool) := (subst_Put.f k ([] : List (S39)) (⟨#[89]⟩ : ByteArray) 1 1 (⟨#[]⟩ : ByteArray)).bind fun bt201 => ((subst_Put.f k bt201.1 (⟨#[88]⟩ : ByteArray) 1 2 (⟨#[]⟩ : ByteArray)).bind fun bt205 => ((subst_Put.f k bt205.1 (⟨#[88]⟩ : ByteArray) 1 1 (⟨#[]⟩ : ByteArray)).bind fun bt209 => ((subst_Get.f k bt205.1 (⟨#[88]⟩ : ByteArray)).bind fun bt213 => (if bt201.2 = true then (if bt205.2 = true then (if bt209.2 = true then (none) else (if bt213.2.2.2 = true then (if bt213.1 = 1 then (if bt213.2.1 = 2 then (if bt213.2.2.1.toList = ([] : List UInt8) then (if (bt205.1.length : Int) = 2 then (if 0 < (bt205.1.length : Int) then (if ((rd_T39 bt205.1 0).f0).toList = ([88] : List UInt8) then ((subst_Var.f k (⟨#[88]⟩ : ByteArray)).bind fun t219 => (if t219 = true then ((subst_Var.f k (⟨#[120]⟩ : ByteArray)).bind fun t220 => (if t220 = true then (none) else ((subst_Check.f k (([(⟨(⟨#[]⟩ : ByteArray), (⟨0, 0, (⟨#[]⟩ : ByteArray)⟩ : S24)⟩ : S39)] : List (S39)))).bind fun t224 => (some (t224 == 1))))) else (none))) else (none)) else (none)) else (none)) else (none)) else (none)) else (none)) else (none))) else (none)) else (none)))))
theorem constablelaw05_wakes.mono : ∀ k, LeO (constablelaw05_wakes.f k ) (constablelaw05_wakes.f (k + 1) ) := by
 intro  k
 unfold constablelaw05_wakes.f
 repeat' first
   | (with_reducible exact subst_Check.mono _ _)
   | (with_reducible exact subst_Get.mono _ _ _)
   | (with_reducible exact subst_Put.mono _ _ _ _ _ _)
   | (with_reducible exact subst_Var.mono _ _)
   | (with_reducible exact LeO.refl _)
   | (with_reducible exact LeO.none _)
   | (with_reducible refine LeO.ite ?_ ?_)
   | (with_reducible refine LeO.bind ?_ (fun _ => ?_))
set_option maxHeartbeats 8000000 in
set_option maxRecDepth 100000 in
theorem constablelaw05_wakes.calls (k : Nat)  (r : Bool) (w : World) (h : constablelaw05_wakes.f k  = some r) :
  Calls Try.prog 28 #[] w fun e w' => e = .returned (.bool r) ∧ Below w.heap.size w w' := by
 have hu24 := Try.underlying24
 have hu39 := Try.underlying39
 have HB := Aside0.mk (Below.refl w.heap.size w)
 have H : ((subst_Put.f k ([] : List (S39)) (⟨#[89]⟩ : ByteArray) 1 1 (⟨#[]⟩ : ByteArray)).bind fun bt201 => ((subst_Put.f k bt201.1 (⟨#[88]⟩ : ByteArray) 1 2 (⟨#[]⟩ : ByteArray)).bind fun bt205 => ((subst_Put.f k bt205.1 (⟨#[88]⟩ : ByteArray) 1 1 (⟨#[]⟩ : ByteArray)).bind fun bt209 => ((subst_Get.f k bt205.1 (⟨#[88]⟩ : ByteArray)).bind fun bt213 => (if bt201.2 = true then (if bt205.2 = true then (if bt209.2 = true then (none) else (if bt213.2.2.2 = true then (if bt213.1 = 1 then (if bt213.2.1 = 2 then (if bt213.2.2.1.toList = ([] : List UInt8) then (if (bt205.1.length : Int) = 2 then (if 0 < (bt205.1.length : Int) then (if ((rd_T39 bt205.1 0).f0).toList = ([88] : List UInt8) then ((subst_Var.f k (⟨#[88]⟩ : ByteArray)).bind fun t219 => (if t219 = true then ((subst_Var.f k (⟨#[120]⟩ : ByteArray)).bind fun t220 => (if t220 = true then (none) else ((subst_Check.f k (([(⟨(⟨#[]⟩ : ByteArray), (⟨0, 0, (⟨#[]⟩ : ByteArray)⟩ : S24)⟩ : S39)] : List (S39)))).bind fun t224 => (some (t224 == 1))))) else (none))) else (none)) else (none)) else (none)) else (none)) else (none)) else (none)) else (none))) else (none)) else (none)))))) = some r := h
 clear h
 replace H := Option.bind_eq_some_iff.mp H
 obtain ⟨⟨t201, t204⟩, A10, H⟩ := H
 replace H : ((subst_Put.f k t201 (⟨#[88]⟩ : ByteArray) 1 2 (⟨#[]⟩ : ByteArray)).bind fun bt205 => ((subst_Put.f k bt205.1 (⟨#[88]⟩ : ByteArray) 1 1 (⟨#[]⟩ : ByteArray)).bind fun bt209 => ((subst_Get.f k bt205.1 (⟨#[88]⟩ : ByteArray)).bind fun bt213 => (if t204 = true then (if bt205.2 = true then (if bt209.2 = true then (none) else (if bt213.2.2.2 = true then (if bt213.1 = 1 then (if bt213.2.1 = 2 then (if bt213.2.2.1.toList = ([] : List UInt8) then (if (bt205.1.length : Int) = 2 then (if 0 < (bt205.1.length : Int) then (if ((rd_T39 bt205.1 0).f0).toList = ([88] : List UInt8) then ((subst_Var.f k (⟨#[88]⟩ : ByteArray)).bind fun t219 => (if t219 = true then ((subst_Var.f k (⟨#[120]⟩ : ByteArray)).bind fun t220 => (if t220 = true then (none) else ((subst_Check.f k (([(⟨(⟨#[]⟩ : ByteArray), (⟨0, 0, (⟨#[]⟩ : ByteArray)⟩ : S24)⟩ : S39)] : List (S39)))).bind fun t224 => (some (t224 == 1))))) else (none))) else (none)) else (none)) else (none)) else (none)) else (none)) else (none)) else (none))) else (none)) else (none))))) = some r := H
 have A1 := Aside0.mk A10
 clear A10
 replace H := Option.bind_eq_some_iff.mp H
 obtain ⟨⟨t205, t208⟩, A20, H⟩ := H
 replace H : ((subst_Put.f k t205 (⟨#[88]⟩ : ByteArray) 1 1 (⟨#[]⟩ : ByteArray)).bind fun bt209 => ((subst_Get.f k t205 (⟨#[88]⟩ : ByteArray)).bind fun bt213 => (if t204 = true then (if t208 = true then (if bt209.2 = true then (none) else (if bt213.2.2.2 = true then (if bt213.1 = 1 then (if bt213.2.1 = 2 then (if bt213.2.2.1.toList = ([] : List UInt8) then (if (t205.length : Int) = 2 then (if 0 < (t205.length : Int) then (if ((rd_T39 t205 0).f0).toList = ([88] : List UInt8) then ((subst_Var.f k (⟨#[88]⟩ : ByteArray)).bind fun t219 => (if t219 = true then ((subst_Var.f k (⟨#[120]⟩ : ByteArray)).bind fun t220 => (if t220 = true then (none) else ((subst_Check.f k (([(⟨(⟨#[]⟩ : ByteArray), (⟨0, 0, (⟨#[]⟩ : ByteArray)⟩ : S24)⟩ : S39)] : List (S39)))).bind fun t224 => (some (t224 == 1))))) else (none))) else (none)) else (none)) else (none)) else (none)) else (none)) else (none)) else (none))) else (none)) else (none)))) = some r := H
 have A2 := Aside0.mk A20
 clear A20
 replace H := Option.bind_eq_some_iff.mp H
 obtain ⟨⟨t209, t212⟩, A30, H⟩ := H
 replace H : ((subst_Get.f k t205 (⟨#[88]⟩ : ByteArray)).bind fun bt213 => (if t204 = true then (if t208 = true then (if t212 = true then (none) else (if bt213.2.2.2 = true then (if bt213.1 = 1 then (if bt213.2.1 = 2 then (if bt213.2.2.1.toList = ([] : List UInt8) then (if (t205.length : Int) = 2 then (if 0 < (t205.length : Int) then (if ((rd_T39 t205 0).f0).toList = ([88] : List UInt8) then ((subst_Var.f k (⟨#[88]⟩ : ByteArray)).bind fun t219 => (if t219 = true then ((subst_Var.f k (⟨#[120]⟩ : ByteArray)).bind fun t220 => (if t220 = true then (none) else ((subst_Check.f k (([(⟨(⟨#[]⟩ : ByteArray), (⟨0, 0, (⟨#[]⟩ : ByteArray)⟩ : S24)⟩ : S39)] : List (S39)))).bind fun t224 => (some (t224 == 1))))) else (none))) else (none)) else (none)) else (none)) else (none)) else (none)) else (none)) else (none))) else (none)) else (none))) = some r := H
 have A3 := Aside0.mk A30
 clear A30
 replace H := Option.bind_eq_some_iff.mp H
 obtain ⟨⟨t213, t214, t215, t216⟩, A40, H⟩ := H
 replace H : (if t204 = true then (if t208 = true then (if t212 = true then (none) else (if t216 = true then (if t213 = 1 then (if t214 = 2 then (if t215.toList = ([] : List UInt8) then (if (t205.length : Int) = 2 then (if 0 < (t205.length : Int) then (if ((rd_T39 t205 0).f0).toList = ([88] : List UInt8) then ((subst_Var.f k (⟨#[88]⟩ : ByteArray)).bind fun t219 => (if t219 = true then ((subst_Var.f k (⟨#[120]⟩ : ByteArray)).bind fun t220 => (if t220 = true then (none) else ((subst_Check.f k (([(⟨(⟨#[]⟩ : ByteArray), (⟨0, 0, (⟨#[]⟩ : ByteArray)⟩ : S24)⟩ : S39)] : List (S39)))).bind fun t224 => (some (t224 == 1))))) else (none))) else (none)) else (none)) else (none)) else (none)) else (none)) else (none)) else (none))) else (none)) else (none)) = some r := H
 have A4 := Aside0.mk A40
 clear A40
 by_cases c5 : t204 = true
 ·subst c5
  have H1 : (if t208 = true then (if t212 = true then (none) else (if t216 = true then (if t213 = 1 then (if t214 = 2 then (if t215.toList = ([] : List UInt8) then (if (t205.length : Int) = 2 then (if 0 < (t205.length : Int) then (if ((rd_T39 t205 0).f0).toList = ([88] : List UInt8) then ((subst_Var.f k (⟨#[88]⟩ : ByteArray)).bind fun t219 => (if t219 = true then ((subst_Var.f k (⟨#[120]⟩ : ByteArray)).bind fun t220 => (if t220 = true then (none) else ((subst_Check.f k (([(⟨(⟨#[]⟩ : ByteArray), (⟨0, 0, (⟨#[]⟩ : ByteArray)⟩ : S24)⟩ : S39)] : List (S39)))).bind fun t224 => (some (t224 == 1))))) else (none))) else (none)) else (none)) else (none)) else (none)) else (none)) else (none)) else (none))) else (none)) = some r := by rw [if_pos rfl] at H; exact H
  clear H
  have H := H1
  clear H1
  by_cases c6 : t208 = true
  ·subst c6
   have H1 : (if t212 = true then (none) else (if t216 = true then (if t213 = 1 then (if t214 = 2 then (if t215.toList = ([] : List UInt8) then (if (t205.length : Int) = 2 then (if 0 < (t205.length : Int) then (if ((rd_T39 t205 0).f0).toList = ([88] : List UInt8) then ((subst_Var.f k (⟨#[88]⟩ : ByteArray)).bind fun t219 => (if t219 = true then ((subst_Var.f k (⟨#[120]⟩ : ByteArray)).bind fun t220 => (if t220 = true then (none) else ((subst_Check.f k (([(⟨(⟨#[]⟩ : ByteArray), (⟨0, 0, (⟨#[]⟩ : ByteArray)⟩ : S24)⟩ : S39)] : List (S39)))).bind fun t224 => (some (t224 == 1))))) else (none))) else (none)) else (none)) else (none)) else (none)) else (none)) else (none)) else (none))) = some r := by rw [if_pos rfl] at H; exact H
   clear H
   have H := H1
   clear H1
   by_cases c7 : t212 = true
   ·subst c7
    have H1 : (none) = some r := by rw [if_pos rfl] at H; exact H
    clear H
    have H := H1
    clear H1
    exact absurd H (by simp)
   ·replace c7 := Bool.eq_false_iff.mpr c7
    subst c7
    have H1 : (if t216 = true then (if t213 = 1 then (if t214 = 2 then (if t215.toList = ([] : List UInt8) then (if (t205.length : Int) = 2 then (if 0 < (t205.length : Int) then (if ((rd_T39 t205 0).f0).toList = ([88] : List UInt8) then ((subst_Var.f k (⟨#[88]⟩ : ByteArray)).bind fun t219 => (if t219 = true then ((subst_Var.f k (⟨#[120]⟩ : ByteArray)).bind fun t220 => (if t220 = true then (none) else ((subst_Check.f k (([(⟨(⟨#[]⟩ : ByteArray), (⟨0, 0, (⟨#[]⟩ : ByteArray)⟩ : S24)⟩ : S39)] : List (S39)))).bind fun t224 => (some (t224 == 1))))) else (none))) else (none)) else (none)) else (none)) else (none)) else (none)) else (none)) else (none)) = some r := by rw [if_neg (show ¬ (false = true) by decide)] at H; exact H
    clear H
    have H := H1
    clear H1
    by_cases c8 : t216 = true
    ·subst c8
     have H1 : (if t213 = 1 then (if t214 = 2 then (if t215.toList = ([] : List UInt8) then (if (t205.length : Int) = 2 then (if 0 < (t205.length : Int) then (if ((rd_T39 t205 0).f0).toList = ([88] : List UInt8) then ((subst_Var.f k (⟨#[88]⟩ : ByteArray)).bind fun t219 => (if t219 = true then ((subst_Var.f k (⟨#[120]⟩ : ByteArray)).bind fun t220 => (if t220 = true then (none) else ((subst_Check.f k (([(⟨(⟨#[]⟩ : ByteArray), (⟨0, 0, (⟨#[]⟩ : ByteArray)⟩ : S24)⟩ : S39)] : List (S39)))).bind fun t224 => (some (t224 == 1))))) else (none))) else (none)) else (none)) else (none)) else (none)) else (none)) else (none)) = some r := by rw [if_pos rfl] at H; exact H
     clear H
     have H := H1
     clear H1
     by_cases c9 : t213 = 1
     ·rw [if_pos c9] at H
      have c9b0 : (t213 == 1) = true := beq_iff_eq.mpr c9
      have c9b1 : (t213 != 1) = false := bne_eq_false_iff_eq.mpr c9
      clear c9
      by_cases c10 : t214 = 2
      ·rw [if_pos c10] at H
       have c10b0 : (t214 == 2) = true := beq_iff_eq.mpr c10
       have c10b1 : (t214 != 2) = false := bne_eq_false_iff_eq.mpr c10
       clear c10
       by_cases c11 : t215.toList = ([] : List UInt8)
       ·rw [if_pos c11] at H
        have c11b0 : (t215.toList == ([] : List UInt8)) = true := beq_iff_eq.mpr c11
        have c11b1 : (t215.toList != ([] : List UInt8)) = false := bne_eq_false_iff_eq.mpr c11
        clear c11
        by_cases c12 : (t205.length : Int) = 2
        ·rw [if_pos c12] at H
         have c12b0 : ((t205.length : Int) == 2) = true := beq_iff_eq.mpr c12
         have c12b1 : ((t205.length : Int) != 2) = false := bne_eq_false_iff_eq.mpr c12
         clear c12
         by_cases c13 : 0 < (t205.length : Int)
         ·rw [if_pos c13] at H
          have c13b0 : decide (0 < (t205.length : Int)) = true := decide_eq_true c13
          have c13b1 : decide (0 < t205.length) = true := decide_eq_true (by omega)
          clear c13
          by_cases c14 : ((rd_T39 t205 0).f0).toList = ([88] : List UInt8)
          ·rw [if_pos c14] at H
           have c14b0 : (((rd_T39 t205 0).f0).toList == ([88] : List UInt8)) = true := beq_iff_eq.mpr c14
           have c14b1 : (((rd_T39 t205 0).f0).toList != ([88] : List UInt8)) = false := bne_eq_false_iff_eq.mpr c14
           clear c14
           replace H := Option.bind_eq_some_iff.mp H
           obtain ⟨t219, A150, H⟩ := H
           replace H : (if t219 = true then ((subst_Var.f k (⟨#[120]⟩ : ByteArray)).bind fun t220 => (if t220 = true then (none) else ((subst_Check.f k (([(⟨(⟨#[]⟩ : ByteArray), (⟨0, 0, (⟨#[]⟩ : ByteArray)⟩ : S24)⟩ : S39)] : List (S39)))).bind fun t224 => (some (t224 == 1))))) else (none)) = some r := H
           have A15 := Aside0.mk A150
           clear A150
           by_cases c16 : t219 = true
           ·subst c16
            have H1 : ((subst_Var.f k (⟨#[120]⟩ : ByteArray)).bind fun t220 => (if t220 = true then (none) else ((subst_Check.f k (([(⟨(⟨#[]⟩ : ByteArray), (⟨0, 0, (⟨#[]⟩ : ByteArray)⟩ : S24)⟩ : S39)] : List (S39)))).bind fun t224 => (some (t224 == 1))))) = some r := by rw [if_pos rfl] at H; exact H
            clear H
            have H := H1
            clear H1
            replace H := Option.bind_eq_some_iff.mp H
            obtain ⟨t220, A170, H⟩ := H
            replace H : (if t220 = true then (none) else ((subst_Check.f k (([(⟨(⟨#[]⟩ : ByteArray), (⟨0, 0, (⟨#[]⟩ : ByteArray)⟩ : S24)⟩ : S39)] : List (S39)))).bind fun t224 => (some (t224 == 1)))) = some r := H
            have A17 := Aside0.mk A170
            clear A170
            by_cases c18 : t220 = true
            ·subst c18
             have H1 : (none) = some r := by rw [if_pos rfl] at H; exact H
             clear H
             have H := H1
             clear H1
             exact absurd H (by simp)
            ·replace c18 := Bool.eq_false_iff.mpr c18
             subst c18
             have H1 : ((subst_Check.f k (([(⟨(⟨#[]⟩ : ByteArray), (⟨0, 0, (⟨#[]⟩ : ByteArray)⟩ : S24)⟩ : S39)] : List (S39)))).bind fun t224 => (some (t224 == 1))) = some r := by rw [if_neg (show ¬ (false = true) by decide)] at H; exact H
             clear H
             have H := H1
             clear H1
             obtain ⟨y221, hy221⟩ : ∃ y_ : List (S39), y_ = (([(⟨(⟨#[]⟩ : ByteArray), (⟨0, 0, (⟨#[]⟩ : ByteArray)⟩ : S24)⟩ : S39)] : List (S39))) := ⟨_, rfl⟩
             replace H : ((subst_Check.f k y221).bind fun t224 => (some (t224 == 1))) = some r := by first | (rw [hy221]; with_reducible exact H) | (have H2_ := (Option.bind_some _ _).symm.trans H; rw [hy221]; with_reducible exact H2_) | (have H2_ := (Option.bind_some _ _).symm.trans H; with_reducible exact H2_) | with_reducible exact H | (rw [hy221]; exact H) | exact H
             have Ny221 := Aside0.mk hy221
             clear hy221
             replace H := Option.bind_eq_some_iff.mp H
             obtain ⟨t224, A190, H⟩ := H
             replace H : (some (t224 == 1)) = some r := H
             have A19 := Aside0.mk A190
             clear A190
             obtain rfl := Option.some.inj H
             go_enter Try.func28, Try.ntmps28
             go_wp2_with (first | ((with_reducible refine gate_dst (N := 1) rfl ?_); (try (refine gate_guard (by rfl) ?_; dsimp only)); refine bE (N := 1) (cs := #[.int .i64 0, .int .i64 0, .string (⟨#[]⟩ : ByteArray)]) (t := 24) ?_; intro gb199 hg w20 hbox hb; have n0_ := Aside0.mk (below_step bB0 hb); have n1_ := Aside0.mk (hbox); have n2_ := Aside0.mk ((by rw [hg]; exact (below_size bB0) : w.heap.size ≤ gb199)); have n3_ := Aside0.mk ((by rw [hg]; exact (below_size bB0) : w.heap.size ≤ gb199)); clear HB; have HB := n0_; have BK199 := n1_; have GW199 := n2_; have GE199 := n3_; clear n0_ n1_ n2_ n3_; clear hb hbox hg) | ((with_reducible refine gate_dst (N := 2) rfl ?_); (try (refine gate_guard (by rfl) ?_; dsimp only)); refine bE (N := 2) (cs := #[.int .i64 0, .int .i64 0, .string (⟨#[]⟩ : ByteArray)]) (t := 24) ?_; intro gb200 hg w21 hbox hb; have n0_ := Aside0.mk (blk_below (g := gb199) (o := .cells #[.int .i64 0, .int .i64 0, .string (⟨#[]⟩ : ByteArray)] 24 (0, 0)) (by refine bk ?_; exact BK199.out) hb); have n1_ := Aside0.mk (below_step (bB1 GE199.out) hb); have n2_ := Aside0.mk (hbox); have n3_ := Aside0.mk ((by rw [hg]; exact (below_size (bB1 GE199.out)) : w.heap.size ≤ gb200)); have n4_ := Aside0.mk ((by rw [hg]; exact (below_size (bB1 GE199.out)) : w.heap.size ≤ gb200)); have n5_ := Aside0.mk ((by rw [hg]; exact Nat.ne_of_lt (blk_lt (g := gb199) (o := .cells #[.int .i64 0, .int .i64 0, .string (⟨#[]⟩ : ByteArray)] 24 (0, 0)) (by refine bk ?_; exact BK199.out)) : gb199 ≠ gb200)); have n6_ := Aside0.mk ((by rw [hg]; exact Nat.ne_of_gt (blk_lt (g := gb199) (o := .cells #[.int .i64 0, .int .i64 0, .string (⟨#[]⟩ : ByteArray)] 24 (0, 0)) (by refine bk ?_; exact BK199.out)) : gb200 ≠ gb199)); clear BK199; clear HB; have BK199 := n0_; have HB := n1_; have BK200 := n2_; have GW200 := n3_; have GE200 := n4_; have NB199_200 := n5_; have NB200_199 := n6_; clear n0_ n1_ n2_ n3_ n4_ n5_ n6_; clear hb hbox hg; have hnb22 := NB199_200.out; have hnc22 := NB200_199.out; have hcz23_0 : w21.cell? ⟨gb199, 0, none⟩ = some (.int .i64 0) := (blk_cell BK199.out 0).trans rfl; have hcz23_1 : w21.cell? ⟨gb199, 1, none⟩ = some (.int .i64 0) := (blk_cell BK199.out 1).trans rfl; have hcz23_2 : w21.cell? ⟨gb199, 2, none⟩ = some (.string (⟨#[]⟩ : ByteArray)) := (blk_cell BK199.out 2).trans rfl; have hfz23_0 := blk_frozen BK199.out 0; have hfz23_1 := blk_frozen BK199.out 1; have hfz23_2 := blk_frozen BK199.out 2; have hcz24_0 : w21.cell? ⟨gb200, 0, none⟩ = some (.int .i64 0) := (blk_cell BK200.out 0).trans rfl; have hcz24_1 : w21.cell? ⟨gb200, 1, none⟩ = some (.int .i64 0) := (blk_cell BK200.out 1).trans rfl; have hcz24_2 : w21.cell? ⟨gb200, 2, none⟩ = some (.string (⟨#[]⟩ : ByteArray)) := (blk_cell BK200.out 2).trans rfl; have hfz24_0 := blk_frozen BK200.out 0; have hfz24_1 := blk_frozen BK200.out 1; have hfz24_2 := blk_frozen BK200.out 2) | ((with_reducible refine gate_callee (f := 19) rfl ?_); refine goesL_ (some 15) rfl rfl Try.func19 (by kernel_rfl) rfl #[.slice none 0 0, .string (⟨#[89]⟩ : ByteArray), .agg #[.int .i64 1, .int .i64 1, .string (⟨#[]⟩ : ByteArray)]] rfl aG ?_; (refine (subst_Put.calls k _ _ ([] : List (S39)) (⟨#[89]⟩ : ByteArray) 1 1 (⟨#[]⟩ : ByteArray) t201 true _ ?side1 ?side2 A1.out).mono ?_); (case side1 => exact Kd.C_nil _ _); (case side2 => exact Nat.le_refl _); rintro e w25 ⟨v202, rfl, ho0, hb⟩; refine ⟨_, rfl, ?_⟩; have n0_ := Aside0.mk (Kd.R_lower ho0 (below_size (bB2 GE199.out GE200.out))); have n1_ := Aside0.mk (blk_below (g := gb199) (o := .cells #[.int .i64 1, .int .i64 1, .string (⟨#[]⟩ : ByteArray)] 24 (0, 0)) (by refine bk ?_; refine blk_far ?_ NB199_200.out _; refine bk ?_; refine blk_far ?_ NB199_200.out _; refine bk ?_; refine blk_far ?_ NB199_200.out _; refine bk ?_; refine blk_put (cs := #[.int .i64 1, .int .i64 1, .string (⟨#[]⟩ : ByteArray)]) ?_ 2 _ rfl; refine bk ?_; refine blk_put (cs := #[.int .i64 1, .int .i64 0, .string (⟨#[]⟩ : ByteArray)]) ?_ 1 _ rfl; refine bk ?_; refine blk_put (cs := #[.int .i64 0, .int .i64 0, .string (⟨#[]⟩ : ByteArray)]) ?_ 0 _ rfl; refine bk ?_; exact BK199.out) hb); have n2_ := Aside0.mk (blk_below (g := gb200) (o := .cells #[.int .i64 1, .int .i64 2, .string (⟨#[]⟩ : ByteArray)] 24 (0, 0)) (by refine bk ?_; refine blk_put (cs := #[.int .i64 1, .int .i64 2, .string (⟨#[]⟩ : ByteArray)]) ?_ 2 _ rfl; refine bk ?_; refine blk_put (cs := #[.int .i64 1, .int .i64 0, .string (⟨#[]⟩ : ByteArray)]) ?_ 1 _ rfl; refine bk ?_; refine blk_put (cs := #[.int .i64 0, .int .i64 0, .string (⟨#[]⟩ : ByteArray)]) ?_ 0 _ rfl; refine bk ?_; refine blk_far ?_ NB200_199.out _; refine bk ?_; refine blk_far ?_ NB200_199.out _; refine bk ?_; refine blk_far ?_ NB200_199.out _; refine bk ?_; exact BK200.out) hb); have n3_ := Aside0.mk (below_step (bB2 GE199.out GE200.out) hb); clear BK199; clear BK200; clear HB; have HO203 := n0_; have BK199 := n1_; have BK200 := n2_; have HB := n3_; clear n0_ n1_ n2_ n3_; (try clear hb); (try clear hb2); (try clear hk); (try clear hi); (try clear ho0); have hcz26_0 : w25.cell? ⟨gb200, 0, none⟩ = some (.int .i64 1) := (blk_cell BK200.out 0).trans rfl; have hcz26_1 : w25.cell? ⟨gb200, 1, none⟩ = some (.int .i64 2) := (blk_cell BK200.out 1).trans rfl; have hcz26_2 : w25.cell? ⟨gb200, 2, none⟩ = some (.string (⟨#[]⟩ : ByteArray)) := (blk_cell BK200.out 2).trans rfl; have hfz26_0 := blk_frozen BK200.out 0; have hfz26_1 := blk_frozen BK200.out 1; have hfz26_2 := blk_frozen BK200.out 2; obtain ⟨Ao27, co27, eo27⟩ := Kd.R_slice HO203.out; subst eo27) | ((with_reducible refine gate_callee (f := 19) rfl ?_); refine goesL_ (some 21) rfl rfl Try.func19 (by kernel_rfl) rfl #[.slice Ao27 t201.length co27, .string (⟨#[88]⟩ : ByteArray), .agg #[.int .i64 1, .int .i64 2, .string (⟨#[]⟩ : ByteArray)]] rfl aG ?_; (with_reducible refine (subst_Put.calls k _ _ t201 (⟨#[88]⟩ : ByteArray) 1 2 (⟨#[]⟩ : ByteArray) t205 true _ ?side1 ?side2 A2.out).mono ?_); (case side1 => exact sC (Kd.R_reads' HO203.out).2.2); (case side2 => exact (Kd.R_reads' HO203.out).2.1); rintro e w28 ⟨v206, rfl, ho0, hb⟩; refine ⟨_, rfl, ?_⟩; have n0_ := Aside0.mk (Kd.R_elder' (sR HO203.out) (Kd.R_base ho0) hb); have n1_ := Aside0.mk (Kd.R_lower (Kd.R_new' ho0 (Kd.R_lt (sR HO203.out))) (below_size (bB2 GE199.out GE200.out))); have n2_ := Aside0.mk (blk_below (g := gb199) (o := .cells #[.int .i64 1, .int .i64 1, .string (⟨#[]⟩ : ByteArray)] 24 (0, 0)) (by refine bk ?_; exact BK199.out) hb); have n3_ := Aside0.mk (blk_below (g := gb200) (o := .cells #[.int .i64 1, .int .i64 2, .string (⟨#[]⟩ : ByteArray)] 24 (0, 0)) (by refine bk ?_; exact BK200.out) hb); have n4_ := Aside0.mk (below_step (bB2 GE199.out GE200.out) hb); clear HO203; clear BK199; clear BK200; clear HB; have HO203 := n0_; have HO207 := n1_; have BK199 := n2_; have BK200 := n3_; have HB := n4_; clear n0_ n1_ n2_ n3_ n4_; (try clear hb); (try clear hb2); (try clear hk); (try clear hi); (try clear ho0); have hcz29_0 : w28.cell? ⟨gb199, 0, none⟩ = some (.int .i64 1) := (blk_cell BK199.out 0).trans rfl; have hcz29_1 : w28.cell? ⟨gb199, 1, none⟩ = some (.int .i64 1) := (blk_cell BK199.out 1).trans rfl; have hcz29_2 : w28.cell? ⟨gb199, 2, none⟩ = some (.string (⟨#[]⟩ : ByteArray)) := (blk_cell BK199.out 2).trans rfl; have hfz29_0 := blk_frozen BK199.out 0; have hfz29_1 := blk_frozen BK199.out 1; have hfz29_2 := blk_frozen BK199.out 2; obtain ⟨Ao30, co30, eo30⟩ := Kd.R_slice HO207.out; subst eo30) | ((with_reducible refine gate_callee (f := 19) rfl ?_); refine goesL_ (some 27) rfl rfl Try.func19 (by kernel_rfl) rfl #[.slice Ao30 t205.length co30, .string (⟨#[88]⟩ : ByteArray), .agg #[.int .i64 1, .int .i64 1, .string (⟨#[]⟩ : ByteArray)]] rfl aG ?_; (with_reducible refine (subst_Put.calls k _ _ t205 (⟨#[88]⟩ : ByteArray) 1 1 (⟨#[]⟩ : ByteArray) t209 false _ ?side1 ?side2 A3.out).mono ?_); (case side1 => exact sC (Kd.R_reads' HO207.out).2.2); (case side2 => exact (Kd.R_reads' HO207.out).2.1); rintro e w31 ⟨v210, rfl, ho0, hb⟩; refine ⟨_, rfl, ?_⟩; have n0_ := Aside0.mk (Kd.R_elder' (sR HO203.out) (Kd.R_base ho0) hb); have n1_ := Aside0.mk (Kd.R_elder' (sR HO207.out) (Kd.R_base ho0) hb); have n2_ := Aside0.mk (Kd.R_lower (Kd.R_new' (Kd.R_new' ho0 (Kd.R_lt (sR HO203.out))) (Kd.R_lt (sR HO207.out))) (below_size (bB2 GE199.out GE200.out))); have n3_ := Aside0.mk (blk_below (g := gb199) (o := .cells #[.int .i64 1, .int .i64 1, .string (⟨#[]⟩ : ByteArray)] 24 (0, 0)) (by refine bk ?_; exact BK199.out) hb); have n4_ := Aside0.mk (blk_below (g := gb200) (o := .cells #[.int .i64 1, .int .i64 2, .string (⟨#[]⟩ : ByteArray)] 24 (0, 0)) (by refine bk ?_; exact BK200.out) hb); have n5_ := Aside0.mk (below_step (bB2 GE199.out GE200.out) hb); clear HO203; clear HO207; clear BK199; clear BK200; clear HB; have HO203 := n0_; have HO207 := n1_; have HO211 := n2_; have BK199 := n3_; have BK200 := n4_; have HB := n5_; clear n0_ n1_ n2_ n3_ n4_ n5_; (try clear hb); (try clear hb2); (try clear hk); (try clear hi); (try clear ho0)) | ((with_reducible refine gate_callee (f := 17) rfl ?_); refine goesL_ (some 32) rfl rfl Try.func17 (by kernel_rfl) rfl #[.slice Ao30 t205.length co30, .string (⟨#[88]⟩ : ByteArray)] rfl aG ?_; (with_reducible refine (subst_Get.calls k _ _ t205 (⟨#[88]⟩ : ByteArray) t213 t214 t215 true _ ?side1 ?side2 A4.out).mono ?_); (case side1 => exact sC (Kd.R_reads' HO207.out).2.2); (case side2 => exact (Kd.R_reads' HO207.out).2.1); rintro e w32 ⟨rfl, hb⟩; refine ⟨_, rfl, ?_⟩; have n0_ := Aside0.mk (Kd.R_below (sR HO203.out) hb); have n1_ := Aside0.mk (Kd.R_below (sR HO207.out) hb); have n2_ := Aside0.mk (Kd.R_below (sR HO211.out) hb); have n3_ := Aside0.mk (blk_below (g := gb199) (o := .cells #[.int .i64 1, .int .i64 1, .string (⟨#[]⟩ : ByteArray)] 24 (0, 0)) (by refine bk ?_; exact BK199.out) hb); have n4_ := Aside0.mk (blk_below (g := gb200) (o := .cells #[.int .i64 1, .int .i64 2, .string (⟨#[]⟩ : ByteArray)] 24 (0, 0)) (by refine bk ?_; exact BK200.out) hb); have n5_ := Aside0.mk (below_step (bB2 GE199.out GE200.out) hb); clear HO203; clear HO207; clear HO211; clear BK199; clear BK200; clear HB; have HO203 := n0_; have HO207 := n1_; have HO211 := n2_; have BK199 := n3_; have BK200 := n4_; have HB := n5_; clear n0_ n1_ n2_ n3_ n4_ n5_; (try clear hb); (try clear hb2); (try clear hk); (try clear hi)) | ((with_reducible refine gate_dst (N := 9) rfl ?_); (try (refine gate_guard (by rfl) ?_; dsimp only)); refine bE (N := 9) (cs := #[.int .i64 0, .int .i64 0, .string (⟨#[]⟩ : ByteArray)]) (t := 24) ?_; intro gb217 hg w33 hbox hb; have n0_ := Aside0.mk (Kd.R_below (sR HO203.out) hb); have n1_ := Aside0.mk (Kd.R_below (sR HO207.out) hb); have n2_ := Aside0.mk (Kd.R_below (sR HO211.out) hb); have n3_ := Aside0.mk (blk_below (g := gb199) (o := .cells #[.int .i64 1, .int .i64 1, .string (⟨#[]⟩ : ByteArray)] 24 (0, 0)) (by refine bk ?_; exact BK199.out) hb); have n4_ := Aside0.mk (blk_below (g := gb200) (o := .cells #[.int .i64 1, .int .i64 2, .string (⟨#[]⟩ : ByteArray)] 24 (0, 0)) (by refine bk ?_; exact BK200.out) hb); have n5_ := Aside0.mk (below_step (bB2 GE199.out GE200.out) hb); have n6_ := Aside0.mk (hbox); have n7_ := Aside0.mk ((by rw [hg]; exact (below_size (bB2 GE199.out GE200.out)) : w.heap.size ≤ gb217)); have n8_ := Aside0.mk ((by rw [hg]; exact (below_size (bB2 GE199.out GE200.out)) : w.heap.size ≤ gb217)); have n9_ := Aside0.mk ((by rw [hg]; exact Nat.ne_of_lt (blk_lt (g := gb199) (o := .cells #[.int .i64 1, .int .i64 1, .string (⟨#[]⟩ : ByteArray)] 24 (0, 0)) (by refine bk ?_; exact BK199.out)) : gb199 ≠ gb217)); have n10_ := Aside0.mk ((by rw [hg]; exact Nat.ne_of_gt (blk_lt (g := gb199) (o := .cells #[.int .i64 1, .int .i64 1, .string (⟨#[]⟩ : ByteArray)] 24 (0, 0)) (by refine bk ?_; exact BK199.out)) : gb217 ≠ gb199)); have n11_ := Aside0.mk ((by rw [hg]; exact Nat.ne_of_lt (blk_lt (g := gb200) (o := .cells #[.int .i64 1, .int .i64 2, .string (⟨#[]⟩ : ByteArray)] 24 (0, 0)) (by refine bk ?_; exact BK200.out)) : gb200 ≠ gb217)); have n12_ := Aside0.mk ((by rw [hg]; exact Nat.ne_of_gt (blk_lt (g := gb200) (o := .cells #[.int .i64 1, .int .i64 2, .string (⟨#[]⟩ : ByteArray)] 24 (0, 0)) (by refine bk ?_; exact BK200.out)) : gb217 ≠ gb200)); clear HO203; clear HO207; clear HO211; clear BK199; clear BK200; clear HB; have HO203 := n0_; have HO207 := n1_; have HO211 := n2_; have BK199 := n3_; have BK200 := n4_; have HB := n5_; have BK217 := n6_; have GW217 := n7_; have GE217 := n8_; have NB199_217 := n9_; have NB217_199 := n10_; have NB200_217 := n11_; have NB217_200 := n12_; clear n0_ n1_ n2_ n3_ n4_ n5_ n6_ n7_ n8_ n9_ n10_ n11_ n12_; clear hb hbox hg; have hnb34 := NB217_199.out; have hnc34 := NB199_217.out; have hnb35 := NB217_200.out; have hnc35 := NB200_217.out; have hcz36_0 : w33.cell? ⟨gb217, 0, none⟩ = some (.int .i64 0) := (blk_cell BK217.out 0).trans rfl; have hcz36_1 : w33.cell? ⟨gb217, 1, none⟩ = some (.int .i64 0) := (blk_cell BK217.out 1).trans rfl; have hcz36_2 : w33.cell? ⟨gb217, 2, none⟩ = some (.string (⟨#[]⟩ : ByteArray)) := (blk_cell BK217.out 2).trans rfl; have hfz36_0 := blk_frozen BK217.out 0; have hfz36_1 := blk_frozen BK217.out 1; have hfz36_2 := blk_frozen BK217.out 2; have hcz37_0 : w33.cell? ⟨gb200, 0, none⟩ = some (.int .i64 1) := (blk_cell BK200.out 0).trans rfl; have hcz37_1 : w33.cell? ⟨gb200, 1, none⟩ = some (.int .i64 2) := (blk_cell BK200.out 1).trans rfl; have hcz37_2 : w33.cell? ⟨gb200, 2, none⟩ = some (.string (⟨#[]⟩ : ByteArray)) := (blk_cell BK200.out 2).trans rfl; have hfz37_0 := blk_frozen BK200.out 0; have hfz37_1 := blk_frozen BK200.out 1; have hfz37_2 := blk_frozen BK200.out 2; have p218 : 0 ≤ (0 : Int) := (by omega); have q218 : 0 < (t205.length : Int) := of_decide_eq_true (by first | (with_reducible assumption) | assumption); obtain ⟨ad218, e218, hx218_0, hx218_1, hx218_2, hx218_3⟩ := at_T39 (Kd.R_reads' HO207.out).2.2 0 p218 q218; cases e218; have qi218 : (0 < t205.length) = True := eq_true (by omega); (try rw [show ((0 : Int)).toNat = 0 from rfl] at hx218_0); (try rw [show 0 * 4 = 0 from rfl] at hx218_0); (try rw [Addr.add_zero'] at hx218_0); (try rw [show ((0 : Int)).toNat = 0 from rfl] at hx218_1); (try rw [show 0 * 4 = 0 from rfl] at hx218_1); (try rw [Addr.add_zero'] at hx218_1); (try rw [show ((0 : Int)).toNat = 0 from rfl] at hx218_2); (try rw [show 0 * 4 = 0 from rfl] at hx218_2); (try rw [Addr.add_zero'] at hx218_2); (try rw [show ((0 : Int)).toNat = 0 from rfl] at hx218_3); (try rw [show 0 * 4 = 0 from rfl] at hx218_3); (try rw [Addr.add_zero'] at hx218_3); have hn218_0 : ad218.block ≠ gb217 := Kd.own_blk (Kd.R_ne HO207.out BK217.out (by decide)); have hn218_1 : ad218.block ≠ gb217 := Kd.own_blk (Kd.R_ne HO207.out BK217.out (by decide)); have hn218_2 : ad218.block ≠ gb217 := Kd.own_blk (Kd.R_ne HO207.out BK217.out (by decide)); replace hx218_0 := (cell_far (p := ⟨gb217, 0, none⟩) (by first | (rw [add_block]; exact hn218_0) | (show (Addr.add _ _).block ≠ _; rw [add_block]; exact hn218_0) | exact hn218_0) (.int .i64 t213)).trans hx218_0; replace hx218_1 := (cell_far (p := ⟨gb217, 0, none⟩) (by first | (rw [add_block]; exact hn218_0) | (show (Addr.add _ _).block ≠ _; rw [add_block]; exact hn218_0) | exact hn218_0) (.int .i64 t213)).trans hx218_1; replace hx218_2 := (cell_far (p := ⟨gb217, 0, none⟩) (by first | (rw [add_block]; exact hn218_0) | (show (Addr.add _ _).block ≠ _; rw [add_block]; exact hn218_0) | exact hn218_0) (.int .i64 t213)).trans hx218_2; replace hx218_3 := (cell_far (p := ⟨gb217, 0, none⟩) (by first | (rw [add_block]; exact hn218_0) | (show (Addr.add _ _).block ≠ _; rw [add_block]; exact hn218_0) | exact hn218_0) (.int .i64 t213)).trans hx218_3; replace hx218_0 := (cell_far (p := ⟨gb217, 1, none⟩) (by first | (rw [add_block]; exact hn218_1) | (show (Addr.add _ _).block ≠ _; rw [add_block]; exact hn218_1) | exact hn218_1) (.int .i64 t214)).trans hx218_0; replace hx218_1 := (cell_far (p := ⟨gb217, 1, none⟩) (by first | (rw [add_block]; exact hn218_1) | (show (Addr.add _ _).block ≠ _; rw [add_block]; exact hn218_1) | exact hn218_1) (.int .i64 t214)).trans hx218_1; replace hx218_2 := (cell_far (p := ⟨gb217, 1, none⟩) (by first | (rw [add_block]; exact hn218_1) | (show (Addr.add _ _).block ≠ _; rw [add_block]; exact hn218_1) | exact hn218_1) (.int .i64 t214)).trans hx218_2; replace hx218_3 := (cell_far (p := ⟨gb217, 1, none⟩) (by first | (rw [add_block]; exact hn218_1) | (show (Addr.add _ _).block ≠ _; rw [add_block]; exact hn218_1) | exact hn218_1) (.int .i64 t214)).trans hx218_3; replace hx218_0 := (cell_far (p := ⟨gb217, 2, none⟩) (by first | (rw [add_block]; exact hn218_2) | (show (Addr.add _ _).block ≠ _; rw [add_block]; exact hn218_2) | exact hn218_2) (.string t215)).trans hx218_0; replace hx218_1 := (cell_far (p := ⟨gb217, 2, none⟩) (by first | (rw [add_block]; exact hn218_2) | (show (Addr.add _ _).block ≠ _; rw [add_block]; exact hn218_2) | exact hn218_2) (.string t215)).trans hx218_1; replace hx218_2 := (cell_far (p := ⟨gb217, 2, none⟩) (by first | (rw [add_block]; exact hn218_2) | (show (Addr.add _ _).block ≠ _; rw [add_block]; exact hn218_2) | exact hn218_2) (.string t215)).trans hx218_2; replace hx218_3 := (cell_far (p := ⟨gb217, 2, none⟩) (by first | (rw [add_block]; exact hn218_2) | (show (Addr.add _ _).block ≠ _; rw [add_block]; exact hn218_2) | exact hn218_2) (.string t215)).trans hx218_3; clear hn218_0; clear hn218_1; clear hn218_2; replace p218 := eq_true p218; replace q218 := eq_true q218) | (go_at_call 21; (with_reducible refine (subst_Var.calls k (⟨#[88]⟩ : ByteArray) true _ A15.out).mono ?_); rintro e w' ⟨rfl, ⟨nd, rfl⟩⟩) | (go_at_call 21; (with_reducible refine (subst_Var.calls k (⟨#[120]⟩ : ByteArray) false _ A17.out).mono ?_); rintro e w' ⟨rfl, ⟨nd, rfl⟩⟩) | ((with_reducible refine gate_dst (N := 72) rfl ?_); (try (refine gate_guard (by rfl) ?_; dsimp only)); refine Kd.R_lit k39 _ 39 ?hg (N := 72) ?hd (xs := ([(⟨(⟨#[]⟩ : ByteArray), (⟨0, 0, (⟨#[]⟩ : ByteArray)⟩ : S24)⟩ : S39)] : List (S39))) (inner := [.string (⟨#[]⟩ : ByteArray), .int .i64 0, .int .i64 0, .string (⟨#[]⟩ : ByteArray)]) (ok := fun _ => True) (okp := fun _ => True) ?hr ?hp (fun _ hk => hk) trivial (Below.refl _ _) (Nat.le_refl _) (by simp) ?_; (case hd => rfl); (case hg => rfl); (case hr => first | (go_simp; done) | (go_simp; rfl)); (case hp => exact (Reps.c4 (show Kd.M k39 _ _ _ (⟨(⟨#[]⟩ : ByteArray), (⟨0, 0, (⟨#[]⟩ : ByteArray)⟩ : S24)⟩ : S39) [.string (⟨#[]⟩ : ByteArray), .int .i64 0, .int .i64 0, .string (⟨#[]⟩ : ByteArray)] from (k39_mkM _ _ _ (⟨(⟨#[]⟩ : ByteArray), (⟨0, 0, (⟨#[]⟩ : ByteArray)⟩ : S24)⟩ : S39) )) (Reps.none _ _))); intro v222 w38 ho39 hb hg_ hnew_; clear hg_ hnew_; (first | rw [← Ny221.out] at ho39 | (simp only [Int.reduceToNat] at ho39; rw [← Ny221.out] at ho39)); have n0_ := Aside0.mk (Kd.R_elder' (sR ((Kd.R_mono (Kd.R_far (p := ⟨gb217, 2, none⟩) (Kd.R_far (p := ⟨gb217, 1, none⟩) (Kd.R_far (p := ⟨gb217, 0, none⟩) (Kd.R_types HO203.out BK217.out (by decide)) (fun _ hk => hk.2) (.int .i64 t213)) (fun _ hk => hk.2) (.int .i64 t214)) (fun _ hk => hk.2) (.string t215)) (fun _ h_ => h_.1)))) (Kd.R_base ho39) hb); have n1_ := Aside0.mk (Kd.R_elder' (sR ((Kd.R_mono (Kd.R_far (p := ⟨gb217, 2, none⟩) (Kd.R_far (p := ⟨gb217, 1, none⟩) (Kd.R_far (p := ⟨gb217, 0, none⟩) (Kd.R_types HO207.out BK217.out (by decide)) (fun _ hk => hk.2) (.int .i64 t213)) (fun _ hk => hk.2) (.int .i64 t214)) (fun _ hk => hk.2) (.string t215)) (fun _ h_ => h_.1)))) (Kd.R_base ho39) hb); have n2_ := Aside0.mk (Kd.R_elder' (sR ((Kd.R_mono (Kd.R_far (p := ⟨gb217, 2, none⟩) (Kd.R_far (p := ⟨gb217, 1, none⟩) (Kd.R_far (p := ⟨gb217, 0, none⟩) (Kd.R_types HO211.out BK217.out (by decide)) (fun _ hk => hk.2) (.int .i64 t213)) (fun _ hk => hk.2) (.int .i64 t214)) (fun _ hk => hk.2) (.string t215)) (fun _ h_ => h_.1)))) (Kd.R_base ho39) hb); have n3_ := Aside0.mk (Kd.R_lower (Kd.R_new' (Kd.R_new' (Kd.R_new' ho39 (Kd.R_lt (sR ((Kd.R_mono (Kd.R_far (p := ⟨gb217, 2, none⟩) (Kd.R_far (p := ⟨gb217, 1, none⟩) (Kd.R_far (p := ⟨gb217, 0, none⟩) (Kd.R_types HO203.out BK217.out (by decide)) (fun _ hk => hk.2) (.int .i64 t213)) (fun _ hk => hk.2) (.int .i64 t214)) (fun _ hk => hk.2) (.string t215)) (fun _ h_ => h_.1)))))) (Kd.R_lt (sR ((Kd.R_mono (Kd.R_far (p := ⟨gb217, 2, none⟩) (Kd.R_far (p := ⟨gb217, 1, none⟩) (Kd.R_far (p := ⟨gb217, 0, none⟩) (Kd.R_types HO207.out BK217.out (by decide)) (fun _ hk => hk.2) (.int .i64 t213)) (fun _ hk => hk.2) (.int .i64 t214)) (fun _ hk => hk.2) (.string t215)) (fun _ h_ => h_.1)))))) (Kd.R_lt (sR ((Kd.R_mono (Kd.R_far (p := ⟨gb217, 2, none⟩) (Kd.R_far (p := ⟨gb217, 1, none⟩) (Kd.R_far (p := ⟨gb217, 0, none⟩) (Kd.R_types HO211.out BK217.out (by decide)) (fun _ hk => hk.2) (.int .i64 t213)) (fun _ hk => hk.2) (.int .i64 t214)) (fun _ hk => hk.2) (.string t215)) (fun _ h_ => h_.1)))))) (below_size (bB3 GE199.out GE200.out GE217.out))); have n4_ := Aside0.mk (blk_below (g := gb199) (o := .cells #[.int .i64 1, .int .i64 1, .string (⟨#[]⟩ : ByteArray)] 24 (0, 0)) (by refine bk ?_; refine blk_far ?_ NB199_217.out _; refine bk ?_; refine blk_far ?_ NB199_217.out _; refine bk ?_; refine blk_far ?_ NB199_217.out _; refine bk ?_; exact BK199.out) hb); have n5_ := Aside0.mk (blk_below (g := gb200) (o := .cells #[.int .i64 1, .int .i64 2, .string (⟨#[]⟩ : ByteArray)] 24 (0, 0)) (by refine bk ?_; refine blk_far ?_ NB200_217.out _; refine bk ?_; refine blk_far ?_ NB200_217.out _; refine bk ?_; refine blk_far ?_ NB200_217.out _; refine bk ?_; exact BK200.out) hb); have n6_ := Aside0.mk (blk_below (g := gb217) (o := .cells #[.int .i64 t213, .int .i64 t214, .string t215] 24 (0, 0)) (by refine bk ?_; refine blk_put (cs := #[.int .i64 t213, .int .i64 t214, .string (⟨#[]⟩ : ByteArray)]) ?_ 2 _ rfl; refine bk ?_; refine blk_put (cs := #[.int .i64 t213, .int .i64 0, .string (⟨#[]⟩ : ByteArray)]) ?_ 1 _ rfl; refine bk ?_; refine blk_put (cs := #[.int .i64 0, .int .i64 0, .string (⟨#[]⟩ : ByteArray)]) ?_ 0 _ rfl; refine bk ?_; exact BK217.out) hb); have n7_ := Aside0.mk (below_step (bB3 GE199.out GE200.out GE217.out) hb); clear HO203; clear HO207; clear HO211; clear BK199; clear BK200; clear BK217; clear HB; have HO203 := n0_; have HO207 := n1_; have HO211 := n2_; have HO223 := n3_; have BK199 := n4_; have BK200 := n5_; have BK217 := n6_; have HB := n7_; clear n0_ n1_ n2_ n3_ n4_ n5_ n6_ n7_; clear hb ho39; obtain ⟨Ao40, co40, eo40⟩ := Kd.R_slice HO223.out; subst eo40) | (go_at_call 25; (with_reducible refine (subst_Check.calls k _ _ y221 t224 _ ?side1 ?side2 A19.out).mono ?_); (case side1 => exact sC (Kd.R_reads' HO223.out).2.2); (case side2 => exact (Kd.R_reads' HO223.out).2.1); rintro e w41 ⟨rfl, hb⟩; have n0_ := Aside0.mk (Kd.R_below (sR HO203.out) hb); have n1_ := Aside0.mk (Kd.R_below (sR HO207.out) hb); have n2_ := Aside0.mk (Kd.R_below (sR HO211.out) hb); have n3_ := Aside0.mk (Kd.R_below (sR HO223.out) hb); have n4_ := Aside0.mk (blk_below (g := gb199) (o := .cells #[.int .i64 1, .int .i64 1, .string (⟨#[]⟩ : ByteArray)] 24 (0, 0)) (by refine bk ?_; exact BK199.out) hb); have n5_ := Aside0.mk (blk_below (g := gb200) (o := .cells #[.int .i64 1, .int .i64 2, .string (⟨#[]⟩ : ByteArray)] 24 (0, 0)) (by refine bk ?_; exact BK200.out) hb); have n6_ := Aside0.mk (blk_below (g := gb217) (o := .cells #[.int .i64 t213, .int .i64 t214, .string t215] 24 (0, 0)) (by refine bk ?_; exact BK217.out) hb); have n7_ := Aside0.mk (below_step (bB3 GE199.out GE200.out GE217.out) hb); clear HO203; clear HO207; clear HO211; clear HO223; clear BK199; clear BK200; clear BK217; clear HB; have HO203 := n0_; have HO207 := n1_; have HO211 := n2_; have HO223 := n3_; have BK199 := n4_; have BK200 := n5_; have BK217 := n6_; have HB := n7_; clear n0_ n1_ n2_ n3_ n4_ n5_ n6_ n7_; (try clear hb); (try clear hb2); (try clear hk); (try clear hi)))
             go_ret
             exact ⟨eW, (bB3 GE199.out GE200.out GE217.out)⟩
           ·replace c16 := Bool.eq_false_iff.mpr c16
            subst c16
            have H1 : (none) = some r := by rw [if_neg (show ¬ (false = true) by decide)] at H; exact H
            clear H
            have H := H1
            clear H1
            exact absurd H (by simp)
          ·rw [if_neg c14] at H
           exact absurd H (by simp)
         ·rw [if_neg c13] at H
          exact absurd H (by simp)
        ·rw [if_neg c12] at H
         exact absurd H (by simp)
       ·rw [if_neg c11] at H
        exact absurd H (by simp)
      ·rw [if_neg c10] at H
       exact absurd H (by simp)
     ·rw [if_neg c9] at H
      exact absurd H (by simp)
    ·replace c8 := Bool.eq_false_iff.mpr c8
     subst c8
     have H1 : (none) = some r := by rw [if_neg (show ¬ (false = true) by decide)] at H; exact H
     clear H
     have H := H1
     clear H1
     exact absurd H (by simp)
  ·replace c6 := Bool.eq_false_iff.mpr c6
   subst c6
   have H1 : (none) = some r := by rw [if_neg (show ¬ (false = true) by decide)] at H; exact H
   clear H
   have H := H1
   clear H1
   exact absurd H (by simp)
 ·replace c5 := Bool.eq_false_iff.mpr c5
  subst c5
  have H1 : (none) = some r := by rw [if_neg (show ¬ (false = true) by decide)] at H; exact H
  clear H
  have H := H1
  clear H1
  exact absurd H (by simp)

end Go.Proofs.Ytghommaokdhjmaa.P
/- The printed functions of layer 5 and of its statements answer their plain forms from some number of rounds on; texts no longer than a million bytes. -/
set_option linter.unusedVariables false
set_option linter.unusedSimpArgs false
namespace Go.Proofs.Ytghommaokdhjmaa.SpecB
open Go.Shelf Go.RowKit Go.Lib Go.Sort Go.Proofs.SymP Go.Proofs.YtghommaokdhjmaaW.PrintWords Go.Proofs.YtghommaokdhjmaaW.PrintLast Go.Proofs.YtghommaokdhjmaaW.PrintMore Go.Proofs.Ytghommaokdhjmaa.Gate Go.Proofs.Ytghommaokdhjmaa.P Go.Proofs.Ytghommaokdhjmaa.Str Go.Proofs.Ytghommaokdhjmaa.PSpec Go.Proofs.Ytghommaokdhjmaa.BothB
def heavyX (x : S39) : Bool := decide (200 < x.f0.size) || decide (200 < x.f1.f2.size)
/-- constablelaw05.Heavy's answer. -/
def heavyP (l : List S39) : Bool := decide (110 < l.length) || l.any heavyX
theorem heavy_loop (l : List S39) (hl : l.length ≤ 1000000) : ∀ (m i : Nat), i + m = l.length → Ev (fun k => constablelaw05_Heavy.l0 k l i) ((l.drop i).any heavyX) := by
  intro m
  induction m with
  | zero =>
    intro i h
    refine Ev.step (fun k => by rw [constablelaw05_Heavy.l0, if_neg (by omega)]) ?_
    rw [List.drop_eq_nil_of_le (by omega)]
    exact Ev.now _
  | succ m ih =>
    intro i h
    have hi : i < l.length := by omega
    refine Ev.step (fun k => by rw [constablelaw05_Heavy.l0, if_pos (by omega), if_pos (by omega), rd_get hi, w64 hl hi]) ?_
    rw [List.drop_eq_getElem_cons hi, List.any_cons, heavyX]
    by_cases h1 : 200 < l[i].f0.size
    · simp only [if_pos (show (l[i].f0.size : Int) > 200 by omega), decide_eq_true h1, Bool.true_or]; exact Ev.now _
    · by_cases h2 : 200 < l[i].f1.f2.size
      · simp only [if_neg (show ¬ (l[i].f0.size : Int) > 200 by omega), if_pos (show (l[i].f1.f2.size : Int) > 200 by omega), decide_eq_true h2, Bool.true_or, Bool.or_true]; exact Ev.now _
      · simp only [if_neg (show ¬ (l[i].f0.size : Int) > 200 by omega), if_neg (show ¬ (l[i].f1.f2.size : Int) > 200 by omega), decide_eq_false h1, decide_eq_false h2, Bool.false_or]; exact ih (i + 1) (by omega)
theorem ev_heavy (l : List S39) : Ev (fun k => constablelaw05_Heavy.f k l) (heavyP l) := by
  unfold constablelaw05_Heavy.f heavyP
  by_cases h : 110 < l.length
  · simp only [if_pos (show (l.length : Int) > 110 by omega), decide_eq_true h, Bool.true_or]; exact Ev.now _
  · simp only [if_neg (show ¬ (l.length : Int) > 110 by omega), decide_eq_false h, Bool.false_or]
    exact heavy_loop l (by omega) l.length 0 (by omega)
theorem heavy_no {l : List S39} (h : heavyP l = false) : l.length ≤ 110 ∧ ∀ x ∈ l, x.f0.size ≤ 200 ∧ x.f1.f2.size ≤ 200 := by
  unfold heavyP at h
  rw [Bool.or_eq_false_iff, decide_eq_false_iff_not] at h
  refine ⟨by omega, fun x hx => ?_⟩
  have h2 := List.any_eq_false.1 h.2 x hx
  unfold heavyX at h2
  simp only [Bool.or_eq_true, decide_eq_true_eq, not_or] at h2
  omega
theorem heavy_fit {l : List S39} (h : heavyP l = false) : fitB l = true := fit_mem.2 fun x hx => by have := (heavy_no h).2 x hx; omega
/-! ### The statements' own call -/
def bY : S39 := ⟨⟨#[89]⟩, ⟨1, 1, ⟨#[]⟩⟩⟩
def bX2 : S39 := ⟨⟨#[88]⟩, ⟨1, 2, ⟨#[]⟩⟩⟩
def bE : S39 := ⟨⟨#[]⟩, ⟨0, 0, ⟨#[]⟩⟩⟩
theorem right_bY : rightP bY = true := by unfold rightP; rw [show varP bY.f0 = true by decide +kernel, show valP bY.f1.f0 bY.f1.f1 bY.f1.f2 = 0 from valP_int (by decide) (by decide)]; rfl
theorem right_bX2 : rightP bX2 = true := by unfold rightP; rw [show varP bX2.f0 = true by decide +kernel, show valP bX2.f1.f0 bX2.f1.f1 bX2.f1.f2 = 0 from valP_int (by decide) (by decide)]; rfl
theorem ev_wakes : Ev (fun k => constablelaw05_wakes.f k) true := by
  have w1 : With [] bY [bY] := ⟨right_nil, right_bY, right_one right_bY, fun y => by simp⟩
  have c2 : chkP [bX2, bY] = 0 := (right_iff _).2 ⟨by simp, fun y hy => by
    rcases List.mem_cons.1 hy with rfl | hy
    · exact right_bX2
    · rw [List.mem_singleton.1 hy]; exact right_bY, by unfold Rises; simp; decide +kernel⟩
  have w2 : With [bY] bX2 [bX2, bY] := ⟨right_one right_bY, right_bX2, c2, fun y => by simp; exact Or.comm⟩
  have n3 : putP [bX2, bY] bX1 = ([], false) := by
    rcases put_cases [bX2, bY] bX1 with ⟨m, _, h⟩ | ⟨h, _⟩
    · have := rises_inj ((right_iff m).1 h.2.2.1).2.2 ((h.2.2.2 bX2).2 (.inl (by simp))) ((h.2.2.2 bX1).2 (.inr rfl)) rfl
      exact absurd (congrArg (fun x : S39 => x.f1.f1) this) (by decide)
    · exact h
  have e1 : Ev (fun k => subst_Put.f k [] ⟨#[89]⟩ 1 1 ⟨#[]⟩) ([bY], true) := by
    rw [← put_with w1]; exact ev_put fit_nil _ _ _ _ (by decide) (by decide)
  have f1 : fitB [bY] = true := by decide
  have f2 : fitB [bX2, bY] = true := by decide
  have e2 : Ev (fun k => subst_Put.f k [bY] ⟨#[88]⟩ 1 2 ⟨#[]⟩) ([bX2, bY], true) := by
    rw [← put_with w2]; exact ev_put f1 _ _ _ _ (by decide) (by decide)
  have e3 : Ev (fun k => subst_Put.f k [bX2, bY] ⟨#[88]⟩ 1 1 ⟨#[]⟩) ([], false) := by
    rw [← n3]; exact ev_put f2 _ _ _ _ (by decide) (by decide)
  have e4 : Ev (fun k => subst_Get.f k [bX2, bY] ⟨#[88]⟩) (1, 2, ⟨#[]⟩, true) := ev_get (by simp) _
  have e5 : Ev (fun k => subst_Check.f k [bE]) 1 := by
    have h := ev_check (l := [bE]) (by decide)
    have : chkP [bE] = 1 := by decide +kernel
    rw [this] at h; exact h
  have e6 : Ev (fun k => subst_Var.f k ⟨#[88]⟩) true := ⟨30, fun k hk => by dsimp only; rw [varP_eq _ k hk, show varP ⟨#[88]⟩ = true by decide +kernel]⟩
  have e7 : Ev (fun k => subst_Var.f k ⟨#[120]⟩) false := ⟨30, fun k hk => by dsimp only; rw [varP_eq _ k hk, show varP ⟨#[120]⟩ = false by decide +kernel]⟩
  unfold constablelaw05_wakes.f
  refine Ev.bind e1 ?_
  refine Ev.bind e2 ?_
  refine Ev.bind e3 ?_
  refine Ev.bind e4 ?_
  have hx : bX2.f0.toList = [88] := by show (⟨#[88]⟩ : ByteArray).toList = _; rw [ByteArray.toList_eq]
  have hr : rd_T39 [bX2, bY] 0 = bX2 := rfl
  simp only [if_true, if_neg (show ¬ (false = true) by decide), ne_toList, hr, hx, List.length_cons, List.length_nil]
  refine Ev.bind e6 ?_
  simp only [if_true]
  refine Ev.bind e7 ?_
  simp only [if_neg (show ¬ (false = true) by decide)]
  refine Ev.bind e5 ?_
  exact Ev.now _
end Go.Proofs.Ytghommaokdhjmaa.SpecB
/- What an argument's reading tells of its cells: whole numbers, texts, Values, Binds, and rows of them. -/
set_option linter.unusedVariables false
namespace Go.Proofs.Ytghommaokdhjmaa.Open
open Go.RowKit Go.Proofs.YtghommaokdhjmaaW.PrintWords Go.Proofs.Ytghommaokdhjmaa.P
variable {H : Type} {enc : TypeId × Value → H} {P : Program} {w : World} {base : Nat} {sp : Nat → Bool} {held : Bool}
theorem trod_int {t : TypeId} {k : IntKind} (ht : P.underlying t = some (.int k)) {fuel : Nat} {cs : List Value} {x : DataW H × List MemPlace} (h : DataW.trod enc P w base sp held fuel t cs = some x) : ∃ n, cs = [.int k n] ∧ (Lit.int k n).wf = true := by
  cases fuel with
  | zero => simp [DataW.trod] at h
  | succ n =>
    unfold DataW.trod at h
    rw [ht] at h
    split at h <;> simp_all
theorem trod_string {t : TypeId} (ht : P.underlying t = some .string) {fuel : Nat} {cs : List Value} {x : DataW H × List MemPlace} (h : DataW.trod enc P w base sp held fuel t cs = some x) : ∃ s, cs = [.string s] ∧ s.size ≤ maxLen := by
  cases fuel with
  | zero => simp [DataW.trod] at h
  | succ n =>
    unfold DataW.trod at h
    rw [ht] at h
    split at h <;> simp_all

/-- Readings of an element type tell a kind. -/
def Tells (H : Type) (enc : TypeId × Value → H) (P : Program) (base : Nat) (sp : Nat → Bool) (held : Bool) {α : Type} (d : Kd α) (e : TypeId) : Prop :=
  ∀ (w : World) (fuel : Nat) (cs : List Value) (x : DataW H × List MemPlace), DataW.trod enc P w base sp held fuel e cs = some x → ∃ p, d.K w p cs
theorem list_of {α : Type} {Q : Nat → α → Prop} : ∀ (n : Nat), (∀ i, i < n → ∃ p, Q i p) → ∃ l : List α, l.length = n ∧ ∀ j p, l[j]? = some p → Q j p
  | 0, _ => ⟨[], rfl, fun j p h => by simp at h⟩
  | n + 1, h => by
    obtain ⟨l, hl, hq⟩ := list_of n (fun i hi => h i (by omega))
    obtain ⟨p, hp⟩ := h n (by omega)
    refine ⟨l ++ [p], by simp [hl], fun j q hj => ?_⟩
    rcases Nat.lt_trichotomy j n with h1 | h1 | h1
    · rw [List.getElem?_append_left (by omega)] at hj; exact hq j q hj
    · subst h1
      rw [List.getElem?_append_right (by omega), hl, Nat.sub_self] at hj
      obtain rfl : p = q := by simpa using hj
      exact hp
    · rw [List.getElem?_eq_none (by simp; omega)] at hj; cases hj
theorem add_add' (a : Addr) (i j : Nat) : (a.add i).add j = a.add (i + j) := by
  unfold Addr.add
  by_cases hi : i = 0 <;> by_cases hj : j = 0 <;> simp [hi, hj, Nat.add_assoc]
theorem tells_row {α : Type} {d : Kd α} {t e : TypeId} (ht : P.underlying t = some (.slice e)) (hs : P.cellsOf e = d.sz) (hd : Tells H enc P base sp held d e) {fuel : Nat} {cs : List Value} {x : DataW H × List MemPlace}
    (h : DataW.trod enc P w base sp held fuel t cs = some x) : ∃ (A : Option Addr) (c : Nat) (l : List α), cs = [.slice A l.length c] ∧ l.length ≤ c ∧ Kd.C d w A l.length l := by
  rcases DataW.trod_slice ht h with ⟨rfl, _⟩ | ⟨a, len, cap, elems, rest, n, _, rfl, _, _, hl, hcm, hlen, hel, _⟩
  · exact ⟨none, 0, [], rfl, Nat.le_refl _, rfl, by simp, fun h => absurd h (Nat.lt_irrefl _)⟩
  · have hex : ∀ i, i < len → ∃ (p : α), ∃ c : List Value, c.length = d.sz ∧ d.K w p c ∧ ∀ j u, c[j]? = some u → w.cell? (a.add (i * d.sz + j)) = some u := by
      intro i hi
      have h1 := hel i hi
      rw [List.getElem?_eq_getElem (by omega), Option.bind_eq_some_iff] at h1
      obtain ⟨c, hc, htr⟩ := h1
      obtain ⟨p, hp⟩ := hd w _ _ _ htr
      obtain ⟨_, hcl, hcell⟩ := World.cells?_some hc
      refine ⟨p, c, by rw [hcl, hs], hp, fun j u hj => ?_⟩
      have hj' : j < P.cellsOf e := by rw [← hcl]; exact (List.getElem?_eq_some_iff.1 hj).1
      rw [← hs, ← add_add', hcell j hj', hj]
    obtain ⟨l, hll, hq⟩ := list_of len hex
    refine ⟨some a, cap, l, by rw [hll], by omega, rfl, by unfold maxLen at hcm; omega, fun _ => ⟨a, rfl, hq⟩⟩

set_option maxRecDepth 100000 in
theorem tells24 : Tells H enc Try.prog base sp held k24 24 := by
  intro w fuel cs x h
  obtain ⟨xs, n, _, rfl, hl, hlen, hf⟩ := DataW.trod_struct Try.underlying24 h
  have hc : Try.prog.cellsOf 24 = 3 := by kernel_rfl
  have h9 : Try.prog.cellsOf 9 = 1 := by kernel_rfl
  have h3 : Try.prog.cellsOf 3 = 1 := by kernel_rfl
  rw [hc] at hl
  obtain ⟨a, b, c, rfl⟩ : ∃ a b c, cs = [a, b, c] := by
    match cs, hl with
    | [a, b, c], _ => exact ⟨a, b, c, rfl⟩
  obtain ⟨y0, y1, y2, rfl⟩ : ∃ y0 y1 y2, xs = [y0, y1, y2] := by
    match xs, hlen with
    | [y0, y1, y2], _ => exact ⟨y0, y1, y2, rfl⟩
  have g0 : DataW.trod enc Try.prog w base sp held n 3 (List.take (Try.prog.cellsOf 3) (List.drop 0 [a, b, c])) = some y0 := hf 0 _ rfl
  have g1 : DataW.trod enc Try.prog w base sp held n 3 (List.take (Try.prog.cellsOf 3) (List.drop 1 [a, b, c])) = some y1 := hf 1 _ rfl
  have g2 : DataW.trod enc Try.prog w base sp held n 9 (List.take (Try.prog.cellsOf 9) (List.drop 2 [a, b, c])) = some y2 := hf 2 _ rfl
  rw [h3] at g0 g1
  rw [h9] at g2
  obtain ⟨n0, e0, _⟩ := trod_int Try.underlying3 g0
  obtain ⟨n1, e1, _⟩ := trod_int Try.underlying3 g1
  obtain ⟨s2, e2, _⟩ := trod_string Try.underlying9 g2
  obtain rfl : a = _ := by simpa using e0
  obtain rfl : b = _ := by simpa using e1
  obtain rfl : c = _ := by simpa using e2
  exact ⟨⟨n0, n1, s2⟩, k24_mk w _⟩
set_option maxRecDepth 100000 in
theorem tells39 : Tells H enc Try.prog base sp held k39 39 := by
  intro w fuel cs x h
  obtain ⟨xs, n, _, rfl, hl, hlen, hf⟩ := DataW.trod_struct Try.underlying39 h
  have hc : Try.prog.cellsOf 39 = 4 := by kernel_rfl
  have h9 : Try.prog.cellsOf 9 = 1 := by kernel_rfl
  have h3 : Try.prog.cellsOf 24 = 3 := by kernel_rfl
  rw [hc] at hl
  obtain ⟨a, b, c, e, rfl⟩ : ∃ a b c e, cs = [a, b, c, e] := by
    match cs, hl with
    | [a, b, c, e], _ => exact ⟨a, b, c, e, rfl⟩
  obtain ⟨y0, y1, rfl⟩ : ∃ y0 y1, xs = [y0, y1] := by
    match xs, hlen with
    | [y0, y1], _ => exact ⟨y0, y1, rfl⟩
  have g0 : DataW.trod enc Try.prog w base sp held n 9 (List.take (Try.prog.cellsOf 9) (List.drop 0 [a, b, c, e])) = some y0 := hf 0 _ rfl
  have g1 : DataW.trod enc Try.prog w base sp held n 24 (List.take (Try.prog.cellsOf 24) (List.drop 1 [a, b, c, e])) = some y1 := hf 1 _ rfl
  rw [h9] at g0
  rw [h3] at g1
  obtain ⟨s0, e0, _⟩ := trod_string Try.underlying9 g0
  obtain ⟨v, hv⟩ := tells24 w _ _ _ g1
  obtain rfl : a = _ := by simpa using e0
  have hv' := k24_open hv
  simp only [List.drop_succ_cons, List.drop_zero, List.take_succ_cons, List.take_zero, List.cons.injEq, and_true] at hv'
  obtain ⟨rfl, rfl, rfl⟩ := hv'
  exact ⟨⟨s0, v⟩, k39_mk w _⟩
end Go.Proofs.Ytghommaokdhjmaa.Open
