/- A part of the proof: walks of the code and plain laws, printed and by hand; no condition. -/
import Derived.Test.YtghommaokdhjmaaGreatEYA1
import Derived.Shelf.SlicesQ.IndexFunc
import Derived.DataElems
import Derived.Lib.SliceRun
import Derived.Deep.QuietTactic
import Derived.BigQuiet
import Derived.Deep.RegionHeld3
set_option linter.unusedVariables false
set_option linter.unusedSimpArgs false
/- Right rows of variables' values: what they have settles them; subst.Both as a plain statement about what rows have; no condition. -/
namespace Go.Proofs.YtghommaokdhjmaaGreat.SpecB
open Go.Shelf Go.RowKit Go.Lib Go.Sort Go.Proofs.SymP Go.Proofs.YtghommaokdhjmaaGreatW.PrintWords P Str PSpec BothB
theorem cf_swap (x y : S66) : cfB x y = - cfB y x := cmpS_swap _ _
theorem cf_zero (x y : S66) : cfB x y = 0 ↔ x.f0 = y.f0 := cmpS_zero _ _
theorem cf_lt {x y z : S66} (h1 : cfB x y < 0) (h2 : cfB y z < 0) : cfB x z < 0 := cmpS_lt h1 h2
def Rises (l : List S66) : Prop := l.Pairwise fun x y => cfB x y < 0
theorem right_iff (m : List S66) : chkP m = 0 ↔ m.length ≤ 100 ∧ (∀ x ∈ m, rightP x = true) ∧ Rises m := by
 constructor
 ·intro h
  have h2 := (chkP_zero m).1 h
  refine ⟨h2.1, fun x hx => ?_, List.pairwise_iff_getElem.2 fun i j hi hj hij => chk_asc h j i hij hj⟩
  obtain ⟨i, hi, rfl⟩ := List.mem_iff_getElem.1 hx
  have := h2.2 i hi
  unfold chkT at this
  rw [Bool.and_eq_true, rd_get hi] at this
  exact this.1
 ·rintro ⟨h1, h2, h3⟩
  refine (chkP_zero m).2 ⟨h1, fun i hi => ?_⟩
  unfold chkT
  rw [Bool.and_eq_true, Bool.or_eq_true, decide_eq_true_eq, rd_get hi]
  refine ⟨h2 _ (List.getElem_mem hi), ?_⟩
  by_cases e : i = 0
  ·exact .inl e
  ·refine .inr ?_
   rw [less_iff, rd_get (show i - 1 < m.length by omega)]
   exact List.pairwise_iff_getElem.1 h3 (i - 1) i (by omega) hi (by omega)
theorem rises_nodup {l : List S66} (h : Rises l) : l.Nodup := by
 refine List.Pairwise.imp (fun {x y} hxy e => ?_) h
 subst e
 have := (cf_zero x x).2 rfl
 omega
theorem rises_only {a b : List S66} (ha : Rises a) (hb : Rises b) (h : ∀ x, x ∈ a ↔ x ∈ b) : a = b := by
 have hp : a.Perm b := (List.perm_ext_iff_of_nodup (rises_nodup ha) (rises_nodup hb)).2 h
 refine List.Perm.eq_of_pairwise (le := fun x y => cfB x y < 0) (fun x y _ _ h1 h2 => ?_) ha hb hp
 have := cf_swap x y
 omega
theorem rises_inj {l : List S66} (h : Rises l) {x y : S66} (hx : x ∈ l) (hy : y ∈ l) (he : x.f0 = y.f0) : x = y := by
 have hz := (cf_zero x y).2 he
 obtain ⟨i, hi, rfl⟩ := List.mem_iff_getElem.1 hx
 obtain ⟨j, hj, rfl⟩ := List.mem_iff_getElem.1 hy
 have hp := List.pairwise_iff_getElem.1 h
 rcases Nat.lt_trichotomy i j with h1 | h1 | h1
 ·have := hp i j hi hj h1; omega
 ·subst h1; rfl
 ·have h2 := hp j i hj hi h1
  have h3 := cf_swap l[i] l[j]
  omega
theorem bothL_mem (l : List S66) (x : S66) : x ∈ bothL l ↔ x ∈ l := by
 unfold bothL
 rw [mem_compact_iff]
 exact (sortB_perm l).mem_iff
theorem compact_at {d : Array S66} {m : Nat} {x : S66} (h : x ∈ compactUpTo d m) : ∃ j, j < m ∧ d[j]! = x := by
 unfold compactUpTo at h
 obtain ⟨j, hj, hx⟩ := List.mem_map.1 h
 exact ⟨j, List.mem_range.1 (List.mem_filter.1 hj).1, hx⟩
theorem compact_rises {d : Array S66} (hs : Sorted d.toList) (hi : ∀ x ∈ d.toList, ∀ y ∈ d.toList, x.f0 = y.f0 → x = y) : ∀ m, m ≤ d.size → Rises (compactUpTo d m)
 | 0, _ => by
  have : compactUpTo d 0 = [] := by unfold compactUpTo; simp
  rw [this]; exact List.Pairwise.nil
 | m + 1, hm => by
  rw [compactUpTo_succ]
  have ih := compact_rises hs hi m (by omega)
  by_cases hk : keeps d m = true
  ·rw [if_pos hk]
   refine List.pairwise_append.2 ⟨ih, List.pairwise_singleton _ _, fun x hx y hy => ?_⟩
   have hy' := List.mem_singleton.1 hy
   subst hy'
   obtain ⟨j, hj, rfl⟩ := compact_at hx
   unfold keeps at hk
   rw [decide_eq_true_eq] at hk
   have hne : d[m]! ≠ d[m - 1]! := by
    rcases hk with h | h
    ·omega
    ·exact h
   have hsg := List.pairwise_iff_getElem.1 hs
   have get : ∀ q, q < d.size → d[q]! ∈ d.toList := fun q hq => by rw [getElem!_pos d q hq]; exact Array.mem_toList_iff.2 (Array.getElem_mem _)
   have le : ∀ p q, p < q → q < d.size → cfB d[p]! d[q]! ≤ 0 := fun p q hpq hq => by
    have := hsg p q (by rw [Array.length_toList]; omega) (by rw [Array.length_toList]; omega) hpq
    simp only [Array.getElem_toList] at this
    rw [getElem!_pos d p (by omega), getElem!_pos d q hq]
    exact this
   have h1 : cfB d[m - 1]! d[m]! < 0 := by
    have h2 := le (m - 1) m (by omega) (by omega)
    rcases Int.lt_or_eq_of_le h2 with h3 | h3
    ·exact h3
    ·exact absurd (hi _ (get (m - 1) (by omega)) _ (get m (by omega)) ((cf_zero _ _).1 h3)).symm hne
   by_cases e : j = m - 1
   ·subst e; exact h1
   ·have h2 := le j (m - 1) (by omega) (by omega)
    rcases Int.lt_or_eq_of_le h2 with h3 | h3
    ·exact cf_lt h3 h1
    ·rw [hi _ (get j (by omega)) _ (get (m - 1) (by omega)) ((cf_zero _ _).1 h3)]; exact h1
  ·rw [if_neg hk, List.append_nil]; exact ih
def Join (a b m : List S66) : Prop := chkP a = 0 ∧ chkP b = 0 ∧ chkP m = 0 ∧ ∀ x, x ∈ m ↔ x ∈ a ∨ x ∈ b
theorem both_join {a b m : List S66} (h : Join a b m) : bothP a b = (m, true) := by
 have hr := (right_iff m).1 h.2.2.1
 have e : bothL (a ++ b) = m := by
  refine rises_only ?_ hr.2.2 fun x => by rw [bothL_mem, List.mem_append, h.2.2.2]
  have hm : ∀ x ∈ (sortB (a ++ b)).toArray.toList, x ∈ m := fun x hx => by
   have hx2 : x ∈ a ++ b := (sortB_perm (a ++ b)).mem_iff.1 (by simpa using hx)
   exact (h.2.2.2 x).2 (List.mem_append.1 hx2)
  exact compact_rises (sortB_sorted _) (fun x hx y hy he => rises_inj hr.2.2 (hm x hx) (hm y hy) he) _ (Nat.le_refl _)
 unfold bothP
 rw [e, if_pos ⟨h.1, h.2.1, h.2.2.1⟩]
theorem both_cases (a b : List S66) : (∃ m, bothP a b = (m, true) ∧ Join a b m) ∨ (bothP a b = ([], false) ∧ ∀ m, ¬ Join a b m) := by
 by_cases h : chkP a = 0 ∧ chkP b = 0 ∧ chkP (bothL (a ++ b)) = 0
 ·exact .inl ⟨bothL (a ++ b), by unfold bothP; rw [if_pos h], h.1, h.2.1, h.2.2, fun x => by rw [bothL_mem, List.mem_append]⟩
 ·have e : bothP a b = ([], false) := by unfold bothP; rw [if_neg h]
  refine .inr ⟨e, fun m hm => ?_⟩
  rw [both_join hm] at e
  injection e with _ e2
  cases e2
theorem right_filter {m : List S66} (h : chkP m = 0) (p : S66 → Bool) : chkP (m.filter p) = 0 := by
 have h2 := (right_iff m).1 h
 exact (right_iff _).2 ⟨Nat.le_trans (List.length_filter_le _ _) h2.1, fun x hx => h2.2.1 x (List.mem_filter.1 hx).1, List.Pairwise.filter _ h2.2.2⟩
theorem right_one {x : S66} (h : rightP x = true) : chkP [x] = 0 := (right_iff _).2 ⟨by simp, fun y hy => by rw [List.mem_singleton.1 hy]; exact h, List.pairwise_singleton _ _⟩
theorem right_nil : chkP [] = 0 := (right_iff _).2 ⟨by simp, fun y hy => by simp at hy, List.Pairwise.nil⟩
def putP (l : List S66) (x : S66) : List S66 × Bool := if rightP x = true then bothP l [x] else ([], false)
def With (l : List S66) (x : S66) (m : List S66) : Prop := chkP l = 0 ∧ rightP x = true ∧ chkP m = 0 ∧ ∀ y, y ∈ m ↔ y ∈ l ∨ y = x
theorem with_join {l m : List S66} {x : S66} : With l x m ↔ rightP x = true ∧ Join l [x] m := by
 unfold With Join
 constructor
 ·rintro ⟨h1, h2, h3, h4⟩
  exact ⟨h2, h1, right_one h2, h3, fun y => by rw [h4, List.mem_singleton]⟩
 ·rintro ⟨h2, h1, _, h3, h4⟩
  exact ⟨h1, h2, h3, fun y => by rw [h4, List.mem_singleton]⟩
theorem put_with {l m : List S66} {x : S66} (h : With l x m) : putP l x = (m, true) := by
 have h2 := with_join.1 h
 unfold putP
 rw [if_pos h2.1, both_join h2.2]
theorem put_cases (l : List S66) (x : S66) : (∃ m, putP l x = (m, true) ∧ With l x m) ∨ (putP l x = ([], false) ∧ ∀ m, ¬ With l x m) := by
 by_cases hr : rightP x = true
 ·rcases both_cases l [x] with ⟨m, h1, h2⟩ | ⟨h1, h2⟩
  ·exact .inl ⟨m, by unfold putP; rw [if_pos hr, h1], with_join.2 ⟨hr, h2⟩⟩
  ·exact .inr ⟨by unfold putP; rw [if_pos hr, h1], fun m hm => h2 m (with_join.1 hm).2⟩
 ·exact .inr ⟨by unfold putP; rw [if_neg hr], fun m hm => hr hm.2.1⟩
def getP : List S66 → ByteArray → Int × Int × ByteArray × Bool
 | [], _ => (0, 0, (⟨#[]⟩ : ByteArray), false)
 | x :: l, n => if x.f0 = n then (x.f1.f0, x.f1.f1, x.f1.f2, true) else getP l n
theorem getP_cases (n : ByteArray) : ∀ l : List S66, (∃ x ∈ l, x.f0 = n ∧ getP l n = (x.f1.f0, x.f1.f1, x.f1.f2, true)) ∨ ((∀ x ∈ l, x.f0 ≠ n) ∧ getP l n = (0, 0, (⟨#[]⟩ : ByteArray), false))
 | [] => .inr ⟨fun x hx => by simp at hx, rfl⟩
 | x :: l => by
  by_cases h : x.f0 = n
  ·exact .inl ⟨x, List.mem_cons_self, h, by rw [getP, if_pos h]⟩
  ·rcases getP_cases n l with ⟨y, h1, h2, h3⟩ | ⟨h1, h2⟩
   ·exact .inl ⟨y, List.mem_cons_of_mem _ h1, h2, by rw [getP, if_neg h]; exact h3⟩
   ·refine .inr ⟨fun y hy => ?_, by rw [getP, if_neg h]; exact h2⟩
    rcases List.mem_cons.1 hy with rfl | hy
    ·exact h
    ·exact h1 y hy
theorem getP_of {l : List S66} (h : chkP l = 0) {x : S66} (hx : x ∈ l) : getP l x.f0 = (x.f1.f0, x.f1.f1, x.f1.f2, true) := by
 rcases getP_cases x.f0 l with ⟨y, h1, h2, h3⟩ | ⟨h1, h2⟩
 ·rw [rises_inj ((right_iff l).1 h).2.2 h1 hx h2] at h3; exact h3
 ·exact absurd rfl (h1 x hx)
end Go.Proofs.YtghommaokdhjmaaGreat.SpecB
namespace Go.Proofs.YtghommaokdhjmaaGreat.P
open Go.RowKit Go.Proofs.YtghommaokdhjmaaGreatW.PrintWords Go.Proofs.YtghommaokdhjmaaGreatW.PrintLast Gate
def subst_Put.f (k : Nat) (l0 : List (S66)) (a1 : ByteArray) (a2_0 : Int) (a2_1 : Int) (a2_2 : ByteArray) : Option ((List (S66)) × Bool) := (subst_right.f k a1 a2_0 a2_1 a2_2).bind fun t376 => (if t376 = true then ((subst_Both.f l0 (([(⟨a1, (⟨a2_0, a2_1, a2_2⟩ : S64)⟩ : S66)] : List (S66)))).bind fun bt380 => (some (bt380.1, bt380.2))) else (some (([] : List (S66)), false)))
set_option maxHeartbeats 8000000 in
set_option maxRecDepth 100000 in
theorem subst_Put.calls (k : Nat) (A0 : Option Addr) (c0 : Nat) (l0 : List (S66)) (a1 : ByteArray) (a2_0 : Int) (a2_1 : Int) (a2_2 : ByteArray) (r1 : List (S66)) (r2 : Bool) (w : World) (hr0 : Kd.C k66 w A0 l0.length l0) (hc0 : l0.length ≤ c0) (h : subst_Put.f k l0 a1 a2_0 a2_1 a2_2 = some (r1, r2)) :
  Calls Tryz.prog 61 #[.slice A0 l0.length c0, .string a1, .agg #[.int .i64 a2_0, .int .i64 a2_1, .string a2_2]] w fun e w' => ∃ v0_ : Value, e = .returned (.tuple #[v0_, .bool r2]) ∧ Kd.R k66 66 w' w.heap.size (fun _ => True) v0_ r1 ∧ Below w.heap.size w w' := by
 have hu64 := Tryz.underlying64
 have hu66 := Tryz.underlying66
 have HR0 := Aside0.mk hr0
 have HC0 := Aside0.mk hc0
 clear hr0 hc0
 have HB := Aside0.mk (Below.refl w.heap.size w)
 have H : ((subst_right.f k a1 a2_0 a2_1 a2_2).bind fun t376 => (if t376 = true then ((subst_Both.f l0 (([(⟨a1, (⟨a2_0, a2_1, a2_2⟩ : S64)⟩ : S66)] : List (S66)))).bind fun bt380 => (some (bt380.1, bt380.2))) else (some (([] : List (S66)), false)))) = some (r1, r2) := h
 clear h
 replace H := Option.bind_eq_some_iff.mp H
 obtain ⟨t376, A40, H⟩ := H
 replace H : (if t376 = true then ((subst_Both.f l0 (([(⟨a1, (⟨a2_0, a2_1, a2_2⟩ : S64)⟩ : S66)] : List (S66)))).bind fun bt380 => (some (bt380.1, bt380.2))) else (some (([] : List (S66)), false))) = some (r1, r2) := H
 have A4 := Aside0.mk A40
 clear A40
 by_cases c5 : t376 = true
 ·subst c5
  have H1 : ((subst_Both.f l0 (([(⟨a1, (⟨a2_0, a2_1, a2_2⟩ : S64)⟩ : S66)] : List (S66)))).bind fun bt380 => (some (bt380.1, bt380.2))) = some (r1, r2) := by rw [if_pos rfl] at H; exact H
  clear H
  have H := H1
  clear H1
  obtain ⟨y377, hy377⟩ : ∃ y_ : List (S66), y_ = (([(⟨a1, (⟨a2_0, a2_1, a2_2⟩ : S64)⟩ : S66)] : List (S66))) := ⟨_, rfl⟩
  replace H : ((subst_Both.f l0 y377).bind fun bt380 => (some (bt380.1, bt380.2))) = some (r1, r2) := by first | (rw [hy377]; with_reducible exact H) | (have H2_ := (Option.bind_some _ _).symm.trans H; rw [hy377]; with_reducible exact H2_) | (have H2_ := (Option.bind_some _ _).symm.trans H; with_reducible exact H2_) | with_reducible exact H | (rw [hy377]; exact H) | exact H
  have Ny377 := Aside0.mk hy377
  clear hy377
  replace H := Option.bind_eq_some_iff.mp H
  obtain ⟨⟨t380, t381⟩, A60, H⟩ := H
  replace H : (some (t380, t381)) = some (r1, r2) := H
  have A6 := Aside0.mk A60
  clear A60
  simp only [Option.some.injEq, Prod.mk.injEq] at H
  obtain ⟨rfl, rfl⟩ := H
  go_enter Tryz.func61, Tryz.ntmps61
  go_wp2_with (first | ((with_reducible refine gate_dst (N := 5) rfl ?_); refine bE (N := 5) (cs := #[.int .i64 a2_0, .int .i64 a2_1, .string a2_2]) (t := 64) ?_; intro gb375 hg w7 hbox hb; have n0_ := Aside0.mk (below_step bB0 hb); have n1_ := Aside0.mk (hbox); have n2_ := Aside0.mk ((by rw [hg]; exact (below_size bB0) : w.heap.size ≤ gb375)); have n3_ := Aside0.mk ((by rw [hg]; exact (below_size bB0) : w.heap.size ≤ gb375)); clear HB; have HB := n0_; have BK375 := n1_; have GW375 := n2_; have GE375 := n3_; clear n0_ n1_ n2_ n3_; clear hb hbox hg; have hcz8_0 : w7.cell? ⟨gb375, 0, none⟩ = some (.int .i64 a2_0) := (blk_cell BK375.out 0).trans rfl; have hcz8_1 : w7.cell? ⟨gb375, 1, none⟩ = some (.int .i64 a2_1) := (blk_cell BK375.out 1).trans rfl; have hcz8_2 : w7.cell? ⟨gb375, 2, none⟩ = some (.string a2_2) := (blk_cell BK375.out 2).trans rfl; have hfz8_0 := blk_frozen BK375.out 0; have hfz8_1 := blk_frozen BK375.out 1; have hfz8_2 := blk_frozen BK375.out 2) | ((with_reducible refine gate_callee (f := 64) rfl ?_); refine goesL_ (some 11) rfl rfl Tryz.func64 (by kernel_rfl) rfl #[.agg #[.string a1, .int .i64 a2_0, .int .i64 a2_1, .string a2_2]] rfl aG ?_; (with_reducible refine (subst_right.calls k a1 a2_0 a2_1 a2_2 true _ A4.out).mono ?_); rintro e w9 ⟨rfl, hb⟩; refine ⟨_, rfl, ?_⟩; have n0_ := Aside0.mk (blk_below (g := gb375) (o := .cells #[.int .i64 a2_0, .int .i64 a2_1, .string a2_2] 64 (0, 0)) (by refine bk ?_; exact BK375.out) hb); have n1_ := Aside0.mk (below_step (bB1 GE375.out) hb); clear BK375; clear HB; have BK375 := n0_; have HB := n1_; clear n0_ n1_; (try clear hb); (try clear hb2); (try clear hk); (try clear hi); have hcz10_0 : w9.cell? ⟨gb375, 0, none⟩ = some (.int .i64 a2_0) := (blk_cell BK375.out 0).trans rfl; have hcz10_1 : w9.cell? ⟨gb375, 1, none⟩ = some (.int .i64 a2_1) := (blk_cell BK375.out 1).trans rfl; have hcz10_2 : w9.cell? ⟨gb375, 2, none⟩ = some (.string a2_2) := (blk_cell BK375.out 2).trans rfl; have hfz10_0 := blk_frozen BK375.out 0; have hfz10_1 := blk_frozen BK375.out 1; have hfz10_2 := blk_frozen BK375.out 2) | ((with_reducible refine gate_dst (N := 17) rfl ?_); refine Kd.R_lit k66 _ 66 ?hg (N := 17) ?hd (xs := ([(⟨a1, (⟨a2_0, a2_1, a2_2⟩ : S64)⟩ : S66)] : List (S66))) (inner := [.string a1, .int .i64 a2_0, .int .i64 a2_1, .string a2_2]) (ok := fun _ => True) (okp := fun _ => True) ?hr ?hp (fun _ hk => hk) trivial (Below.refl _ _) (Nat.le_refl _) (by simp) ?_; (case hd => rfl); (case hg => rfl); (case hr => first | (go_simp; done) | (go_simp; rfl)); (case hp => exact (Reps.c4 (show Kd.M k66 _ _ _ (⟨a1, (⟨a2_0, a2_1, a2_2⟩ : S64)⟩ : S66) [.string a1, .int .i64 a2_0, .int .i64 a2_1, .string a2_2] from (k66_mkM _ _ _ (⟨a1, (⟨a2_0, a2_1, a2_2⟩ : S64)⟩ : S66) )) (Reps.none _ _))); intro v378 w11 ho12 hb hg_ hnew_; clear hg_ hnew_; (first | rw [← Ny377.out] at ho12 | (simp only [Int.reduceToNat] at ho12; rw [← Ny377.out] at ho12)); have n0_ := Aside0.mk (Kd.R_lower ho12 (below_size (bB1 GE375.out))); have n1_ := Aside0.mk (blk_below (g := gb375) (o := .cells #[.int .i64 a2_0, .int .i64 a2_1, .string a2_2] 64 (0, 0)) (by refine bk ?_; exact BK375.out) hb); have n2_ := Aside0.mk (below_step (bB1 GE375.out) hb); clear BK375; clear HB; have HO379 := n0_; have BK375 := n1_; have HB := n2_; clear n0_ n1_ n2_; clear hb ho12; obtain ⟨Ao13, co13, eo13⟩ := Kd.R_slice HO379.out; subst eo13) | ((with_reducible refine gate_callee (f := 93) rfl ?_); refine goesL_ (some 18) rfl rfl Tryz.func93 (by kernel_rfl) rfl #[.slice A0 l0.length c0, .slice Ao13 y377.length co13] rfl aG ?_; (with_reducible refine (subst_Both.calls _ _ l0 _ _ y377 t380 t381 _ ?side1 ?side2 ?side3 ?side4 A6.out).mono ?_); (case side1 => exact sC (Kd.C_below HR0.out HB.out)); (case side2 => exact HC0.out); (case side3 => exact sC (Kd.R_reads' HO379.out).2.2); (case side4 => exact (Kd.R_reads' HO379.out).2.1); rintro e w14 ⟨v382, rfl, ho0, hb⟩; refine ⟨_, rfl, ?_⟩; have n0_ := Aside0.mk (Kd.R_elder' (sR HO379.out) (Kd.R_base ho0) hb); have n1_ := Aside0.mk (Kd.R_lower (Kd.R_new' ho0 (Kd.R_lt (sR HO379.out))) (below_size (bB1 GE375.out))); have n2_ := Aside0.mk (blk_below (g := gb375) (o := .cells #[.int .i64 a2_0, .int .i64 a2_1, .string a2_2] 64 (0, 0)) (by refine bk ?_; exact BK375.out) hb); have n3_ := Aside0.mk (below_step (bB1 GE375.out) hb); clear HO379; clear BK375; clear HB; have HO379 := n0_; have HO383 := n1_; have BK375 := n2_; have HB := n3_; clear n0_ n1_ n2_ n3_; (try clear hb); (try clear hb2); (try clear hk); (try clear hi); (try clear ho0)))
  go_ret2
  exact ⟨_, eW, by (with_reducible repeat (first | apply Kd.R_alloc | apply Kd.R_drewN | apply Kd.R_drew)); exact Kd.R_mono HO383.out (fun _ hk => trivial), (bB1 GE375.out)⟩
 ·replace c5 := Bool.eq_false_iff.mpr c5
  subst c5
  have H1 : (some (([] : List (S66)), false)) = some (r1, r2) := by rw [if_neg (show ¬ (false = true) by decide)] at H; exact H
  clear H
  have H := H1
  clear H1
  simp only [Option.some.injEq, Prod.mk.injEq] at H
  obtain ⟨rfl, rfl⟩ := H
  go_enter Tryz.func61, Tryz.ntmps61
  go_wp2_with (first | ((with_reducible refine gate_dst (N := 5) rfl ?_); refine bE (N := 5) (cs := #[.int .i64 a2_0, .int .i64 a2_1, .string a2_2]) (t := 64) ?_; intro gb375 hg w15 hbox hb; have n0_ := Aside0.mk (below_step bB0 hb); have n1_ := Aside0.mk (hbox); have n2_ := Aside0.mk ((by rw [hg]; exact (below_size bB0) : w.heap.size ≤ gb375)); have n3_ := Aside0.mk ((by rw [hg]; exact (below_size bB0) : w.heap.size ≤ gb375)); clear HB; have HB := n0_; have BK375 := n1_; have GW375 := n2_; have GE375 := n3_; clear n0_ n1_ n2_ n3_; clear hb hbox hg; have hcz16_0 : w15.cell? ⟨gb375, 0, none⟩ = some (.int .i64 a2_0) := (blk_cell BK375.out 0).trans rfl; have hcz16_1 : w15.cell? ⟨gb375, 1, none⟩ = some (.int .i64 a2_1) := (blk_cell BK375.out 1).trans rfl; have hcz16_2 : w15.cell? ⟨gb375, 2, none⟩ = some (.string a2_2) := (blk_cell BK375.out 2).trans rfl; have hfz16_0 := blk_frozen BK375.out 0; have hfz16_1 := blk_frozen BK375.out 1; have hfz16_2 := blk_frozen BK375.out 2) | ((with_reducible refine gate_callee (f := 64) rfl ?_); refine goesL_ (some 11) rfl rfl Tryz.func64 (by kernel_rfl) rfl #[.agg #[.string a1, .int .i64 a2_0, .int .i64 a2_1, .string a2_2]] rfl aG ?_; (with_reducible refine (subst_right.calls k a1 a2_0 a2_1 a2_2 false _ A4.out).mono ?_); rintro e w17 ⟨rfl, hb⟩; refine ⟨_, rfl, ?_⟩; have n0_ := Aside0.mk (blk_below (g := gb375) (o := .cells #[.int .i64 a2_0, .int .i64 a2_1, .string a2_2] 64 (0, 0)) (by refine bk ?_; exact BK375.out) hb); have n1_ := Aside0.mk (below_step (bB1 GE375.out) hb); clear BK375; clear HB; have BK375 := n0_; have HB := n1_; clear n0_ n1_; (try clear hb); (try clear hb2); (try clear hk); (try clear hi)))
  go_ret2
  exact ⟨_, eW, by first | exact Kd.R_nil _ _ _ _ _ | exact Kd.N_nil _ _ _ _ _ | exact Kd.V_nil _ _ _ _ _ | exact Kd.Q_nil _ _ _ _ _ | exact Kd.S_nil _ _ _ _ _, (bB1 GE375.out)⟩
def subst_Get.l0 : Nat → ByteArray → List (S66) → Int → Int → Option (Int × Int × ByteArray × Bool)
 | 0, _, _, _, _ => none
 | k + 1, x1, x8, x9, x10 => if x10 < x9 then (if 0 ≤ x10 then (if x10 < (x8.length : Int) then (if ((rd_T66 x8 x10).f0).toList = x1.toList then (some ((rd_T66 x8 x10).f1.f0, (rd_T66 x8 x10).f1.f1, (rd_T66 x8 x10).f1.f2, true)) else (subst_Get.l0 k x1 x8 x9 (wrap64 (x10 + 1)))) else (none)) else (none)) else (some (0, 0, (⟨#[]⟩ : ByteArray), false))
def subst_Get.f (k : Nat) (l0 : List (S66)) (a1 : ByteArray) : Option (Int × Int × ByteArray × Bool) := subst_Get.l0 k a1 l0 (l0.length : Int) 0
set_option maxHeartbeats 8000000 in
set_option maxRecDepth 100000 in
theorem subst_Get.calls (k : Nat) (A0 : Option Addr) (c0 : Nat) (l0 : List (S66)) (a1 : ByteArray) (r1 : Int) (r2 : Int) (r3 : ByteArray) (r4 : Bool) (w : World) (hr0 : Kd.C k66 w A0 l0.length l0) (hc0 : l0.length ≤ c0) (h : subst_Get.f k l0 a1 = some (r1, r2, r3, r4)) :
  Calls Tryz.prog 36 #[.slice A0 l0.length c0, .string a1] w fun e w' => e = .returned (.tuple #[.agg #[.int .i64 r1, .int .i64 r2, .string r3], .bool r4]) ∧ Below w.heap.size w w' := by
 have hu64 := Tryz.underlying64
 have hu66 := Tryz.underlying66
 have HR0 := Aside0.mk hr0
 have HC0 := Aside0.mk hc0
 clear hr0 hc0
 have HB := Aside0.mk (Below.refl w.heap.size w)
 have H : (subst_Get.l0 k a1 l0 (l0.length : Int) 0) = some (r1, r2, r3, r4) := h
 clear h
 have H' := Aside0.mk H
 clear H
 go_enter Tryz.func36, Tryz.ntmps36
 go_wp2_with (first | ((with_reducible refine gate_dst (N := 4) rfl ?_); refine bE (N := 4) (cs := #[.int .i64 0, .int .i64 0, .string (⟨#[]⟩ : ByteArray)]) (t := 64) ?_; intro gb317 hg w3 hbox hb; have n0_ := Aside0.mk (below_step bB0 hb); have n1_ := Aside0.mk (hbox); have n2_ := Aside0.mk ((by rw [hg]; exact (below_size bB0) : w.heap.size ≤ gb317)); have n3_ := Aside0.mk ((by rw [hg]; exact (below_size bB0) : w.heap.size ≤ gb317)); clear HB; have HB := n0_; have BK317 := n1_; have GW317 := n2_; have GE317 := n3_; clear n0_ n1_ n2_ n3_; clear hb hbox hg))
 go_loopg [10] k (fun kq v10 w' => ∃ (x10_1 : Int) (x318000_1 : Int) (x318001_1 : Int) (x318002_1 : ByteArray), v10 = .int .i64 x10_1 ∧ Aside0 (subst_Get.l0 kq a1 l0 (l0.length : Int) x10_1 = some (r1, r2, r3, r4)) ∧ Aside0 (kq ≤ k) ∧ Aside0 (w'.heap[gb317]? = some (.cells #[.int .i64 x318000_1, .int .i64 x318001_1, .string x318002_1] 64 (0, 0))) ∧ Aside0 (Below w.heap.size w w'))
 case atStart => exact ⟨(0), (0), (0), ((⟨#[]⟩ : ByteArray)), (by first | rfl | (simp; done) | (simp [*]; done)), H', ⟨Nat.le_refl _⟩, ⟨by refine bk ?_; exact BK317.out⟩, ⟨(bB1 GE317.out)⟩⟩
 case round =>
  clear H'
  (try clear p2); (try clear c3)
  obtain ⟨x10_1, x318000_1, x318001_1, x318002_1, rfl, HA, HK1, BK317, HB⟩ := hrel
  cases gk with
  | zero => exact absurd HA.out (by simp [subst_Get.l0])
  | succ k1 =>
   have H := HA.out
   clear HA
   simp only [subst_Get.l0] at H
   by_cases c4 : x10_1 < (l0.length : Int)
   ·rw [if_pos c4] at H
    have c4b0 : decide (x10_1 < (l0.length : Int)) = true := decide_eq_true c4
    clear c4
    by_cases c5 : 0 ≤ x10_1
    ·rw [if_pos c5] at H
     have c5b0 : decide (0 ≤ x10_1) = true := decide_eq_true c5
     clear c5
     by_cases c6 : x10_1 < (l0.length : Int)
     ·rw [if_pos c6] at H
      have c6b0 : decide (x10_1 < (l0.length : Int)) = true := decide_eq_true c6
      clear c6
      by_cases c7 : ((rd_T66 l0 x10_1).f0).toList = a1.toList
      ·rw [if_pos c7] at H
       have c7b0 : (((rd_T66 l0 x10_1).f0).toList == a1.toList) = true := beq_iff_eq.mpr c7
       have c7b1 : (((rd_T66 l0 x10_1).f0).toList != a1.toList) = false := bne_eq_false_iff_eq.mpr c7
       clear c7
       simp only [Option.some.injEq, Prod.mk.injEq] at H
       obtain ⟨rfl, rfl, rfl, rfl⟩ := H
       have p318 : 0 ≤ (x10_1 : Int) := of_decide_eq_true (by first | (with_reducible assumption) | assumption)
       have q318 : x10_1 < (l0.length : Int) := of_decide_eq_true (by first | (with_reducible assumption) | assumption)
       obtain ⟨ad318, e318, hx318_0, hx318_1, hx318_2, hx318_3⟩ := at_T66 HR0.out x10_1 p318 q318
       cases e318
       replace hx318_0 := mvc HB.out hx318_0
       replace hx318_1 := mvc HB.out hx318_1
       replace hx318_2 := mvc HB.out hx318_2
       replace hx318_3 := mvc HB.out hx318_3
       replace p318 := eq_true p318
       replace q318 := eq_true q318
       go_wp2_with (first | ((with_reducible refine gate_dst (N := 7) rfl ?_); refine bE (N := 7) (cs := #[.string (⟨#[]⟩ : ByteArray), .int .i64 0, .int .i64 0, .string (⟨#[]⟩ : ByteArray)]) (t := 66) ?_; intro gb319 hg w8 hbox hb; have n0_ := Aside0.mk (blk_below (g := gb317) (o := .cells #[.int .i64 x318000_1, .int .i64 x318001_1, .string x318002_1] 64 (0, 0)) (by refine bk ?_; exact BK317.out) hb); have n1_ := Aside0.mk (below_step (bB1 GE317.out) hb); have n2_ := Aside0.mk (hbox); have n3_ := Aside0.mk ((by rw [hg]; exact (below_size (bB1 GE317.out)) : w.heap.size ≤ gb319)); have n4_ := Aside0.mk ((by rw [hg]; exact (below_size (bB1 GE317.out)) : w.heap.size ≤ gb319)); have n5_ := Aside0.mk ((by rw [hg]; exact Nat.ne_of_lt (blk_lt (g := gb317) (o := .cells #[.int .i64 x318000_1, .int .i64 x318001_1, .string x318002_1] 64 (0, 0)) (by refine bk ?_; exact BK317.out)) : gb317 ≠ gb319)); have n6_ := Aside0.mk ((by rw [hg]; exact Nat.ne_of_gt (blk_lt (g := gb317) (o := .cells #[.int .i64 x318000_1, .int .i64 x318001_1, .string x318002_1] 64 (0, 0)) (by refine bk ?_; exact BK317.out)) : gb319 ≠ gb317)); clear BK317; clear HB; have BK317 := n0_; have HB := n1_; have BK319 := n2_; have GW319 := n3_; have GE319 := n4_; have NB317_319 := n5_; have NB319_317 := n6_; clear n0_ n1_ n2_ n3_ n4_ n5_ n6_; clear hb hbox hg; have hnb9 := NB319_317.out; have hnc9 := NB317_319.out; have hcz10_0 : w8.cell? ⟨gb319, 0, none⟩ = some (.string (⟨#[]⟩ : ByteArray)) := (blk_cell BK319.out 0).trans rfl; have hcz10_1 : w8.cell? ⟨gb319, 1, none⟩ = some (.int .i64 0) := (blk_cell BK319.out 1).trans rfl; have hcz10_2 : w8.cell? ⟨gb319, 2, none⟩ = some (.int .i64 0) := (blk_cell BK319.out 2).trans rfl; have hcz10_3 : w8.cell? ⟨gb319, 3, none⟩ = some (.string (⟨#[]⟩ : ByteArray)) := (blk_cell BK319.out 3).trans rfl; have hfz10_0 := blk_frozen BK319.out 0; have hfz10_1 := blk_frozen BK319.out 1; have hfz10_2 := blk_frozen BK319.out 2; have hfz10_3 := blk_frozen BK319.out 3; have hcz11_0 : w8.cell? ⟨gb317, 0, none⟩ = some (.int .i64 x318000_1) := (blk_cell BK317.out 0).trans rfl; have hcz11_1 : w8.cell? ⟨gb317, 1, none⟩ = some (.int .i64 x318001_1) := (blk_cell BK317.out 1).trans rfl; have hcz11_2 : w8.cell? ⟨gb317, 2, none⟩ = some (.string x318002_1) := (blk_cell BK317.out 2).trans rfl; have hfz11_0 := blk_frozen BK317.out 0; have hfz11_1 := blk_frozen BK317.out 1; have hfz11_2 := blk_frozen BK317.out 2))
       refine bodyPost_ret (results_ct rfl _ _ gb317 64 #[.int .i64 ((rd_T66 l0 x10_1).f1.f0), .int .i64 ((rd_T66 l0 x10_1).f1.f1), .string ((rd_T66 l0 x10_1).f1.f2)] (0, 0) _ rfl (by refine bk ?_; refine blk_put (cs := #[.int .i64 ((rd_T66 l0 x10_1).f1.f0), .int .i64 ((rd_T66 l0 x10_1).f1.f1), .string x318002_1]) ?_ 2 _ rfl; refine bk ?_; refine blk_put (cs := #[.int .i64 ((rd_T66 l0 x10_1).f1.f0), .int .i64 x318001_1, .string x318002_1]) ?_ 1 _ rfl; refine bk ?_; refine blk_put (cs := #[.int .i64 x318000_1, .int .i64 x318001_1, .string x318002_1]) ?_ 0 _ rfl; refine bk ?_; refine blk_far ?_ NB317_319.out _; refine bk ?_; refine blk_far ?_ NB317_319.out _; refine bk ?_; refine blk_far ?_ NB317_319.out _; refine bk ?_; refine blk_far ?_ NB317_319.out _; refine bk ?_; exact BK317.out) Tryz.underlying64 rfl (by kernel_rfl)) rfl ?_
       exact ⟨eW, (bB2 GE317.out GE319.out)⟩
      ·rw [if_neg c7] at H
       have c7b0 : (((rd_T66 l0 x10_1).f0).toList == a1.toList) = false := beq_eq_false_iff_ne.mpr c7
       have c7b1 : (((rd_T66 l0 x10_1).f0).toList != a1.toList) = true := bne_iff_ne.mpr c7
       have H' := Aside0.mk H
       clear H
       have p318 : 0 ≤ (x10_1 : Int) := of_decide_eq_true (by first | (with_reducible assumption) | assumption)
       have q318 : x10_1 < (l0.length : Int) := of_decide_eq_true (by first | (with_reducible assumption) | assumption)
       obtain ⟨ad318, e318, hx318_0, hx318_1, hx318_2, hx318_3⟩ := at_T66 HR0.out x10_1 p318 q318
       cases e318
       replace hx318_0 := mvc HB.out hx318_0
       replace hx318_1 := mvc HB.out hx318_1
       replace hx318_2 := mvc HB.out hx318_2
       replace hx318_3 := mvc HB.out hx318_3
       replace p318 := eq_true p318
       replace q318 := eq_true q318
       go_wp2_with (first | ((with_reducible refine gate_dst (N := 7) rfl ?_); refine bE (N := 7) (cs := #[.string (⟨#[]⟩ : ByteArray), .int .i64 0, .int .i64 0, .string (⟨#[]⟩ : ByteArray)]) (t := 66) ?_; intro gb319 hg w12 hbox hb; have n0_ := Aside0.mk (blk_below (g := gb317) (o := .cells #[.int .i64 x318000_1, .int .i64 x318001_1, .string x318002_1] 64 (0, 0)) (by refine bk ?_; exact BK317.out) hb); have n1_ := Aside0.mk (below_step (bB1 GE317.out) hb); have n2_ := Aside0.mk (hbox); have n3_ := Aside0.mk ((by rw [hg]; exact (below_size (bB1 GE317.out)) : w.heap.size ≤ gb319)); have n4_ := Aside0.mk ((by rw [hg]; exact (below_size (bB1 GE317.out)) : w.heap.size ≤ gb319)); have n5_ := Aside0.mk ((by rw [hg]; exact Nat.ne_of_lt (blk_lt (g := gb317) (o := .cells #[.int .i64 x318000_1, .int .i64 x318001_1, .string x318002_1] 64 (0, 0)) (by refine bk ?_; exact BK317.out)) : gb317 ≠ gb319)); have n6_ := Aside0.mk ((by rw [hg]; exact Nat.ne_of_gt (blk_lt (g := gb317) (o := .cells #[.int .i64 x318000_1, .int .i64 x318001_1, .string x318002_1] 64 (0, 0)) (by refine bk ?_; exact BK317.out)) : gb319 ≠ gb317)); clear BK317; clear HB; have BK317 := n0_; have HB := n1_; have BK319 := n2_; have GW319 := n3_; have GE319 := n4_; have NB317_319 := n5_; have NB319_317 := n6_; clear n0_ n1_ n2_ n3_ n4_ n5_ n6_; clear hb hbox hg; have hnb13 := NB319_317.out; have hnc13 := NB317_319.out; have hcz14_0 : w12.cell? ⟨gb319, 0, none⟩ = some (.string (⟨#[]⟩ : ByteArray)) := (blk_cell BK319.out 0).trans rfl; have hcz14_1 : w12.cell? ⟨gb319, 1, none⟩ = some (.int .i64 0) := (blk_cell BK319.out 1).trans rfl; have hcz14_2 : w12.cell? ⟨gb319, 2, none⟩ = some (.int .i64 0) := (blk_cell BK319.out 2).trans rfl; have hcz14_3 : w12.cell? ⟨gb319, 3, none⟩ = some (.string (⟨#[]⟩ : ByteArray)) := (blk_cell BK319.out 3).trans rfl; have hfz14_0 := blk_frozen BK319.out 0; have hfz14_1 := blk_frozen BK319.out 1; have hfz14_2 := blk_frozen BK319.out 2; have hfz14_3 := blk_frozen BK319.out 3))
       go_roundg k1
       case measure => have := HK1.out; omega
       case rel => exact ⟨(wrap64 (x10_1 + 1)), (x318000_1), (x318001_1), (x318002_1), (by first | rfl | (simp; done) | (simp [*]; done)), H', ⟨by have := HK1.out; omega⟩, ⟨by refine bk ?_; refine blk_far ?_ NB317_319.out _; refine bk ?_; refine blk_far ?_ NB317_319.out _; refine bk ?_; refine blk_far ?_ NB317_319.out _; refine bk ?_; refine blk_far ?_ NB317_319.out _; refine bk ?_; exact BK317.out⟩, ⟨(bB2 GE317.out GE319.out)⟩⟩
     ·rw [if_neg c6] at H
      exact absurd H (by simp)
    ·rw [if_neg c5] at H
     exact absurd H (by simp)
   ·rw [if_neg c4] at H
    have c4b0 : decide (x10_1 < (l0.length : Int)) = false := decide_eq_false c4
    clear c4
    simp only [Option.some.injEq, Prod.mk.injEq] at H
    obtain ⟨rfl, rfl, rfl, rfl⟩ := H
    have hcz15_0 : wr.cell? ⟨gb317, 0, none⟩ = some (.int .i64 x318000_1) := (blk_cell BK317.out 0).trans rfl
    have hcz15_1 : wr.cell? ⟨gb317, 1, none⟩ = some (.int .i64 x318001_1) := (blk_cell BK317.out 1).trans rfl
    have hcz15_2 : wr.cell? ⟨gb317, 2, none⟩ = some (.string x318002_1) := (blk_cell BK317.out 2).trans rfl
    have hfz15_0 := blk_frozen BK317.out 0
    have hfz15_1 := blk_frozen BK317.out 1
    have hfz15_2 := blk_frozen BK317.out 2
    go_wp2
    refine bodyPost_ret (results_ct rfl _ _ gb317 64 #[.int .i64 0, .int .i64 0, .string (⟨#[]⟩ : ByteArray)] (0, 0) _ rfl (by refine bk ?_; refine blk_put (cs := #[.int .i64 0, .int .i64 0, .string x318002_1]) ?_ 2 _ rfl; refine bk ?_; refine blk_put (cs := #[.int .i64 0, .int .i64 x318001_1, .string x318002_1]) ?_ 1 _ rfl; refine bk ?_; refine blk_put (cs := #[.int .i64 x318000_1, .int .i64 x318001_1, .string x318002_1]) ?_ 0 _ rfl; refine bk ?_; exact BK317.out) Tryz.underlying64 rfl (by kernel_rfl)) rfl ?_
    exact ⟨eW, (bB1 GE317.out)⟩
attribute [local go_sem high] eqA66
def qf20.l0 : Nat → List (S66) → List (S66) → Int → Option (Bool)
 | 0, _, _, _ => none
 | k + 1, x0, x1, x5 => if x5 < (x0.length : Int) then (if 0 ≤ x5 then (if x5 < (x1.length : Int) then (if (!((((rd_T66 x0 x5).f0).toList) == (((rd_T66 x1 x5).f0).toList)) || ((!(((rd_T66 x0 x5).f1.f0) == ((rd_T66 x1 x5).f1.f0)) || (!(((rd_T66 x0 x5).f1.f1) == ((rd_T66 x1 x5).f1.f1)) || (!((((rd_T66 x0 x5).f1.f2).toList) == (((rd_T66 x1 x5).f1.f2).toList))))))) = true then (some false) else (qf20.l0 k x0 x1 (wrap64 (x5 + 1)))) else (none)) else (none)) else (some true)
def qf20.f (k : Nat) (l0 : List (S66)) (l1 : List (S66)) : Option (Bool) := if (l0.length : Int) = (l1.length : Int) then (qf20.l0 k l0 l1 0) else (some false)
set_option maxHeartbeats 8000000 in
set_option maxRecDepth 100000 in
theorem qf20.calls (k : Nat) (A0 : Option Addr) (c0 : Nat) (l0 : List (S66)) (A1 : Option Addr) (c1 : Nat) (l1 : List (S66)) (r : Bool) (w : World) (hr0 : Kd.C k66 w A0 l0.length l0) (hc0 : l0.length ≤ c0) (hr1 : Kd.C k66 w A1 l1.length l1) (hc1 : l1.length ≤ c1) (h : qf20.f k l0 l1 = some r) :
  Calls Tryz.prog 20 #[.slice A0 l0.length c0, .slice A1 l1.length c1] w fun e w' => e = .returned (.bool r) ∧ Drawn0 w w' := by
 have hu66 := Tryz.underlying66
 have HR0 := Aside0.mk hr0
 have HC0 := Aside0.mk hc0
 clear hr0 hc0
 have HR1 := Aside0.mk hr1
 have HC1 := Aside0.mk hc1
 clear hr1 hc1
 have H : (if (l0.length : Int) = (l1.length : Int) then (qf20.l0 k l0 l1 0) else (some false)) = some r := h
 clear h
 by_cases c3 : (l0.length : Int) = (l1.length : Int)
 ·rw [if_pos c3] at H
  have c3b0 : ((l0.length : Int) == (l1.length : Int)) = true := beq_iff_eq.mpr c3
  have c3b1 : ((l0.length : Int) != (l1.length : Int)) = false := bne_eq_false_iff_eq.mpr c3
  have c3b2 : (l0.length == l1.length) = true := by first | simpa using c3 | (simp at c3 ⊢; omega)
  clear c3
  have H' := Aside0.mk H
  clear H
  go_enter Tryz.func20, Tryz.ntmps20
  go_wp2
  repeat (go_quiet (fail); try go_wp2)
  go_loopg [5] k (fun kq v5 w' => ∃ (x5_1 : Int), v5 = .int .i64 x5_1 ∧ Aside0 (qf20.l0 kq l0 l1 x5_1 = some r) ∧ Aside0 (kq ≤ k) ∧ Drawn0 w w')
  case atStart => exact ⟨(0), (by first | rfl | (simp; done) | (simp [*]; done)), H', ⟨Nat.le_refl _⟩, by repeat (first | exact Drawn0.refl _ | apply Drawn0.step)⟩
  case round =>
   clear H'
   (try clear c1); (try clear c2); (try clear p2); (try clear c3); (try clear c3b0); (try clear c3b1); (try clear c3b2)
   obtain ⟨x5_1, rfl, HA, HK1, ⟨m1, rfl⟩⟩ := hrel
   cases gk with
   | zero => exact absurd HA.out (by simp [qf20.l0])
   | succ k1 =>
    have H := HA.out
    clear HA
    simp only [qf20.l0] at H
    by_cases c4 : x5_1 < (l0.length : Int)
    ·rw [if_pos c4] at H
     have c4b0 : decide (x5_1 < (l0.length : Int)) = true := decide_eq_true c4
     clear c4
     by_cases c5 : 0 ≤ x5_1
     ·rw [if_pos c5] at H
      have c5b0 : decide (0 ≤ x5_1) = true := decide_eq_true c5
      clear c5
      by_cases c6 : x5_1 < (l1.length : Int)
      ·rw [if_pos c6] at H
       have c6b0 : decide (x5_1 < (l1.length : Int)) = true := decide_eq_true c6
       clear c6
       obtain ⟨qc7, hqc7⟩ : ∃ b_ : Bool, (!((((rd_T66 l0 x5_1).f0).toList) == (((rd_T66 l1 x5_1).f0).toList)) || ((!(((rd_T66 l0 x5_1).f1.f0) == ((rd_T66 l1 x5_1).f1.f0)) || (!(((rd_T66 l0 x5_1).f1.f1) == ((rd_T66 l1 x5_1).f1.f1)) || (!((((rd_T66 l0 x5_1).f1.f2).toList) == (((rd_T66 l1 x5_1).f1.f2).toList))))))) = b_ := ⟨_, rfl⟩
       by_cases c7 : (!((((rd_T66 l0 x5_1).f0).toList) == (((rd_T66 l1 x5_1).f0).toList)) || ((!(((rd_T66 l0 x5_1).f1.f0) == ((rd_T66 l1 x5_1).f1.f0)) || (!(((rd_T66 l0 x5_1).f1.f1) == ((rd_T66 l1 x5_1).f1.f1)) || (!((((rd_T66 l0 x5_1).f1.f2).toList) == (((rd_T66 l1 x5_1).f1.f2).toList))))))) = true
       ·rw [if_pos c7] at H
        have c7b0 : qc7 = true := hqc7.symm.trans c7
        clear c7
        obtain rfl := Option.some.inj H
        have p402 : 0 ≤ (x5_1 : Int) := of_decide_eq_true (by first | (with_reducible assumption) | assumption)
        have q402 : x5_1 < (l0.length : Int) := of_decide_eq_true (by first | (with_reducible assumption) | assumption)
        obtain ⟨ad402, e402, hx402_0, hx402_1, hx402_2, hx402_3⟩ := at_T66 HR0.out x5_1 p402 q402
        cases e402
        replace p402 := eq_true p402
        replace q402 := eq_true q402
        have p403 : 0 ≤ (x5_1 : Int) := of_decide_eq_true (by first | (with_reducible assumption) | assumption)
        have q403 : x5_1 < (l1.length : Int) := of_decide_eq_true (by first | (with_reducible assumption) | assumption)
        obtain ⟨ad403, e403, hx403_0, hx403_1, hx403_2, hx403_3⟩ := at_T66 HR1.out x5_1 p403 q403
        cases e403
        replace p403 := eq_true p403
        replace q403 := eq_true q403
        go_wp2
        repeat (go_quiet (fail); try go_wp2)
        go_ret
        exact drz
       ·rw [if_neg c7] at H
        have c7b0 : qc7 = false := hqc7.symm.trans (Bool.eq_false_iff.mpr c7)
        clear c7
        have H' := Aside0.mk H
        clear H
        have p402 : 0 ≤ (x5_1 : Int) := of_decide_eq_true (by first | (with_reducible assumption) | assumption)
        have q402 : x5_1 < (l0.length : Int) := of_decide_eq_true (by first | (with_reducible assumption) | assumption)
        obtain ⟨ad402, e402, hx402_0, hx402_1, hx402_2, hx402_3⟩ := at_T66 HR0.out x5_1 p402 q402
        cases e402
        replace p402 := eq_true p402
        replace q402 := eq_true q402
        have p403 : 0 ≤ (x5_1 : Int) := of_decide_eq_true (by first | (with_reducible assumption) | assumption)
        have q403 : x5_1 < (l1.length : Int) := of_decide_eq_true (by first | (with_reducible assumption) | assumption)
        obtain ⟨ad403, e403, hx403_0, hx403_1, hx403_2, hx403_3⟩ := at_T66 HR1.out x5_1 p403 q403
        cases e403
        replace p403 := eq_true p403
        replace q403 := eq_true q403
        go_wp2
        repeat (go_quiet (fail); try go_wp2)
        go_roundg k1
        case measure => have := HK1.out; omega
        case rel => exact ⟨(wrap64 (x5_1 + 1)), (by first | rfl | (simp; done) | (simp [*]; done)), H', ⟨by have := HK1.out; omega⟩, by repeat (first | exact Drawn0.refl _ | apply Drawn0.step)⟩
      ·rw [if_neg c6] at H
       exact absurd H (by simp)
     ·rw [if_neg c5] at H
      exact absurd H (by simp)
    ·rw [if_neg c4] at H
     have c4b0 : decide (x5_1 < (l0.length : Int)) = false := decide_eq_false c4
     clear c4
     obtain rfl := Option.some.inj H
     go_wp2
     repeat (go_quiet (fail); try go_wp2)
     go_ret
     exact drz
 ·rw [if_neg c3] at H
  have c3b0 : ((l0.length : Int) == (l1.length : Int)) = false := beq_eq_false_iff_ne.mpr c3
  have c3b1 : ((l0.length : Int) != (l1.length : Int)) = true := bne_iff_ne.mpr c3
  have c3b2 : (l0.length == l1.length) = false := by first | simpa using c3 | (simp at c3 ⊢; omega)
  obtain rfl := Option.some.inj H
  go_enter Tryz.func20, Tryz.ntmps20
  go_wp2
  repeat (go_quiet (fail); try go_wp2)
  go_ret
  exact drz
end Go.Proofs.YtghommaokdhjmaaGreat.P
/- The printed functions of layer 5 and of its statements answer their plain forms from some number of rounds on; texts no longer than a million bytes. -/
namespace Go.Proofs.YtghommaokdhjmaaGreat.SpecB
open Go.Shelf Go.RowKit Go.Lib Go.Sort Go.Proofs.SymP Go.Proofs.YtghommaokdhjmaaGreatW.PrintWords Go.Proofs.YtghommaokdhjmaaGreatW.PrintLast Gate P Str PSpec BothB
theorem tl_iff (a b : ByteArray) : a.toList = b.toList ↔ a = b := by rw [← bytes_beq_iff, beq_iff_eq]
theorem tl_beq (a b : ByteArray) : (a.toList == b.toList) = decide (a = b) := by
 by_cases h : a = b
 ·subst h; simp
 ·rw [decide_eq_false h, beq_eq_false_iff_ne]; exact fun e => h ((tl_iff a b).1 e)
theorem both_eq {a b : List S66} (ha : fitB a = true) (hb : fitB b = true) (hl : a.length + b.length ≤ 20) : subst_Both.f a b = some (bothP a b) := if_pos ⟨ha, hb, hl⟩
theorem fit_one {x : S66} (h1 : x.f0.size ≤ 1000000) (h2 : x.f1.f2.size ≤ 1000000) : fitB [x] = true := by simp [fitB, h1, h2]
theorem fit_mem {l : List S66} : fitB l = true ↔ ∀ x ∈ l, x.f0.size ≤ 1000000 ∧ x.f1.f2.size ≤ 1000000 := by
 unfold fitB
 rw [List.all_eq_true]
 simp only [Bool.and_eq_true, decide_eq_true_eq]
theorem ev_put {l : List S66} (h : fitB l = true) (hl : l.length ≤ 19) (n : ByteArray) (a b : Int) (s : ByteArray) (h1 : n.size ≤ 1000000) (h2 : s.size ≤ 1000000) : Ev (fun k => subst_Put.f k l n a b s) (putP l ⟨n, ⟨a, b, s⟩⟩) := by
 refine ⟨1000400, fun k hk => ?_⟩
 unfold subst_Put.f putP
 dsimp only
 rw [show subst_right.f k n a b s = some (rightP ⟨n, ⟨a, b, s⟩⟩) from rightP_eq ⟨n, ⟨a, b, s⟩⟩ h2 k (by show s.size + 40 ≤ k; omega), Option.bind_some, both_eq h (fit_one (x := ⟨n, ⟨a, b, s⟩⟩) h1 h2) (by show l.length + 1 ≤ 20; omega)]
 cases rightP ⟨n, ⟨a, b, s⟩⟩ <;> rfl
theorem put_len (l : List S66) (x : S66) : (putP l x).1.length ≤ l.length + 1 := by
 unfold putP
 split
 ·unfold bothP
  split
  ·show (bothL (l ++ [x])).length ≤ _
   have hp := (sortB_perm (l ++ [x])).length_eq
   unfold bothL compactUpTo
   rw [List.length_map]
   refine Nat.le_trans (List.length_filter_le _ _) ?_
   rw [List.length_range, List.size_toArray, hp, List.length_append, List.length_singleton]
   exact Nat.le_refl _
  ·exact Nat.zero_le _
 ·exact Nat.zero_le _
theorem get_loop (l : List S66) (n : ByteArray) (hl : l.length ≤ 1000000) : ∀ (m i : Nat), i + m = l.length → Ev (fun k => subst_Get.l0 k n l (l.length : Int) i) (getP (l.drop i) n) := by
 intro m
 induction m with
 | zero =>
  intro i h
  refine Ev.step (fun k => by rw [subst_Get.l0, if_neg (by omega)]) ?_
  rw [List.drop_eq_nil_of_le (by omega)]
  exact Ev.now _
 | succ m ih =>
  intro i h
  have hi : i < l.length := by omega
  refine Ev.step (fun k => by rw [subst_Get.l0, if_pos (by omega), if_pos (by omega), if_pos (by omega), rd_get hi, w64 hl hi]) ?_
  rw [List.drop_eq_getElem_cons hi, getP]
  by_cases e : l[i].f0 = n
  ·simp only [if_pos ((tl_iff _ _).2 e), if_pos e]; exact Ev.now _
  ·simp only [if_neg (fun h => e ((tl_iff _ _).1 h)), if_neg e]; exact ih (i + 1) (by omega)
theorem ev_get {l : List S66} (hl : l.length ≤ 1000000) (n : ByteArray) : Ev (fun k => subst_Get.f k l n) (getP l n) := by
 unfold subst_Get.f
 exact get_loop l n hl l.length 0 (by omega)
theorem binds_loop (a b : List S66) (hl : a.length ≤ 1000000) (he : a.length = b.length) : ∀ (m i : Nat), i + m = a.length → Ev (fun k => qf20.l0 k a b i) (decide (a.drop i = b.drop i)) := by
 intro m
 induction m with
 | zero =>
  intro i h
  refine Ev.step (fun k => by rw [qf20.l0, if_neg (by omega)]) ?_
  rw [List.drop_eq_nil_of_le (by omega), List.drop_eq_nil_of_le (by omega)]
  exact Ev.now _
 | succ m ih =>
  intro i h
  have hi : i < a.length := by omega
  have hj : i < b.length := by omega
  have hc : (!(a[i].f0.toList == b[i].f0.toList) || ((!(a[i].f1.f0 == b[i].f1.f0) || (!(a[i].f1.f1 == b[i].f1.f1) || (!(a[i].f1.f2.toList == b[i].f1.f2.toList)))))) = !decide (a[i] = b[i]) := by
   rw [← same_dec]
   unfold sameB
   simp only [Bool.not_and]
  refine Ev.step (fun k => by rw [qf20.l0, if_pos (by omega), if_pos (by omega), if_pos (by omega), rd_get hi, rd_get hj, hc, w64 hl hi]) ?_
  rw [List.drop_eq_getElem_cons hi, List.drop_eq_getElem_cons hj]
  by_cases e : a[i] = b[i]
  ·simp only [e, decide_true, Bool.not_true, if_neg (show ¬ (false = true) by decide), List.cons.injEq, true_and]; exact ih (i + 1) (by omega)
  ·simp only [e, decide_false, Bool.not_false, if_true, List.cons.injEq, false_and]; exact Ev.now _
theorem ev_binds {a : List S66} (hl : a.length ≤ 1000000) (b : List S66) : Ev (fun k => qf20.f k a b) (decide (a = b)) := by
 unfold qf20.f
 by_cases h : a.length = b.length
 ·simp only [if_pos (show (a.length : Int) = (b.length : Int) by omega)]
  exact binds_loop a b hl h a.length 0 (by omega)
 ·simp only [if_neg (show ¬ (a.length : Int) = (b.length : Int) by omega)]
  rw [decide_eq_false (fun e => h (by rw [e]))]
  exact Ev.now _
theorem right_len {l : List S66} (h : chkP l = 0) : l.length ≤ 100 := ((right_iff l).1 h).1
theorem right_at {l : List S66} (h : chkP l = 0) {x : S66} (hx : x ∈ l) : rightP x = true := ((right_iff l).1 h).2.1 x hx
theorem with_fit {l m : List S66} {x : S66} (h : With l x m) (hl : fitB l = true) (h1 : x.f0.size ≤ 1000000) (h2 : x.f1.f2.size ≤ 1000000) : fitB m = true :=
 fit_mem.2 fun y hy => by
  rcases (h.2.2.2 y).1 hy with hy | rfl
  ·exact fit_mem.1 hl y hy
  ·exact ⟨h1, h2⟩
theorem ne_toList : (⟨#[]⟩ : ByteArray).toList = ([] : List UInt8) := by rw [ByteArray.toList_eq]
theorem valP_int {n : Int} (h1 : -4611686018427387904 ≤ n) (h2 : n ≤ 4611686018427387904) : valP 1 n ⟨#[]⟩ = 0 := by
 unfold valP
 rw [if_pos rfl, if_pos (by omega), if_pos (by omega), if_pos ne_toList]
end Go.Proofs.YtghommaokdhjmaaGreat.SpecB
/- slices.IndexFunc and slices.ContainsFunc over whatever row of structs that came in, and whatever predicate that the closure answers for the row's elements; the row's reading is the only condition. -/
namespace Go.Proofs.YtghommaokdhjmaaGreat.Cont
open Go.Shelf Go.RowKit Go.Lib Go.Proofs Go.Proofs.YtghommaokdhjmaaGreatW.PrintWords
variable {P : Program} {ρ : Ren} {α : Type}
theorem row_at [Inhabited α] {d : Kd α} {w : World} {A : Option Addr} {l : List α} (hr : Kd.C d w A l.length l) {W : World} (hW : Go.RowKit.Below w.heap.size w W) {j : Nat} (hj : j < l.length) :
  ∃ ad cs, A = some ad ∧ cs.length = d.sz ∧ d.K W l[j]! cs ∧ Sem.run P (loadCellsFrom (ad.add (j * d.sz)) 0 d.sz #[]) W = .ok cs.toArray W := by
 obtain ⟨_, _, h⟩ := Kd.C_below hr hW
 obtain ⟨ad, hA, h2⟩ := h (by omega)
 obtain ⟨cs, hl, hK, hc⟩ := h2 j l[j]! (by rw [List.getElem?_eq_getElem hj, getElem!_pos l j hj])
 refine ⟨ad, cs, hA, hl, hK, run_loadCellsFrom_list P _ _ cs d.sz hl (fun i v hi => ?_)⟩
 rw [Addr.add_add]
 exact hc i v hi
def Answers (P : Program) (g : Nat) (lb : Array Value) (d : Kd α) (l : List α) (p : α → Bool) (w : World) : Prop :=
 ∀ (W : World) (x : α) (cs : List Value), Go.RowKit.Below w.heap.size w W → x ∈ l → cs.length = d.sz → d.K W x cs → Calls P g (#[.agg cs.toArray] ++ lb) W fun e w' => e = .returned (.bool (p x)) ∧ Go.RowKit.Below w.heap.size w w'
set_option maxHeartbeats 4000000 in
theorem index [Inhabited α] (L : SlLaysH0.n6 P ρ) (d : Kd α) (k : Nat) (hk : d.sz = k) (aE : ∀ w, (isAgg (ρ.t 23)).run P w = .ok true w) (zE : ∀ w, (Go.sizeOf (ρ.t 23)).run P w = .ok k w) (p : α → Bool) (g : Nat) (lb : Array Value)
  (eg : ∀ args w, (callFunc g args).run P w = .ok (.enter g args) w) (A : Option Addr) (n c : Nat) (l : List α) (w : World) (hn : n = l.length) (hr : Kd.C d w A l.length l) (hp : Answers P g lb d l p w) :
  Calls P (ρ.f 6) #[.slice A n c, .func (.func g) #[] lb] w fun e w' => e = .returned (.int .i64 (Lib.idxBy (fun _ y => p y) (l.take n) default)) ∧ Go.RowKit.Below w.heap.size w w' := by
 have hbig : n ≤ 9223372036854775807 := by rw [hn]; exact hr.2.1
 have mixed := L.mixed; have t0 := L.t0; have a0 := L.a0; have z0 := L.z0; have v0 := L.v0; have t3 := L.t3; have a3 := L.a3; have z3 := L.z3; have v3 := L.v3; have t4 := L.t4; have a4 := L.a4; have z4 := L.z4; have v4 := L.v4; have t22 := L.t22; have a22 := L.a22; have z22 := L.z22; have v22 := L.v22; have t25 := L.t25; have a25 := L.a25; have z25 := L.z25; have v25 := L.v25
 have HN : Aside (n = l.length) := hn
 have HR : Aside (Kd.C d w A l.length l) := hr
 have HP : Aside (Answers P g lb d l p w) := hp
 have HK : Aside (d.sz = k) := hk
 clear hn hr hp hk
 obtain ⟨_, _, FG⟩ := L.f6
 go_enter FG, SlBodyH.n6_ntmps ρ
 go_wp2
 go_loopg [5, 8] n (fun gg _ s8 wr => ∃ kk : Nat, kk ≤ n ∧ n - kk ≤ gg ∧ s8 = .int .i64 kk ∧ Aside (Go.RowKit.Below w.heap.size w wr) ∧ Aside (∀ j, j < kk → p l[j]! = false))
 case atStart => exact ⟨0, Nat.zero_le _, by omega, rfl, Go.RowKit.Below.refl _ w, fun j hj => absurd hj (Nat.not_lt_zero _)⟩
 case round =>
  obtain ⟨kk, hkk, hg, rfl, BW, AN⟩ := hrel
  by_cases hlt : kk < n
  ·have hltz : (kk : Int) < (n : Int) := by omega
   have hkl : kk < l.length := by have := HN.out; omega
   obtain ⟨ad, cs, hA, hcl, hK, l2⟩ := row_at (P := P) HR.out BW.out hkl
   have hcall := HP.out wr l[kk]! cs BW.out (by rw [getElem!_pos l kk hkl]; exact List.getElem_mem hkl) hcl hK
   rw [HK.out] at l2
   subst hA
   clear hK hcl
   have HL : Aside (kk < l.length) := hkl
   clear hkl
   generalize hy : l[kk]! = y at hcall
   have B : Aside (l[kk]! = y) := hy
   clear hy
   cases hq : p y with
   | true =>
    rw [hq] at hcall
    go_wp2_with (go_at_fn g; refine hcall.mono ?_; rintro e w' ⟨rfl, hb'⟩)
    go_ret
    refine ⟨?_, hb'⟩
    rw [Lib.idxBy_hit (fun _ y => p y) l n kk default hlt (by have := HN.out; omega) (by show p l[kk]! = true; rw [B.out]; exact hq) AN.out]
    rfl
   | false =>
    rw [hq] at hcall
    go_wp2_with (go_at_fn g; refine hcall.mono ?_; rintro e w' ⟨rfl, hb'⟩)
    go_roundg (n - (kk + 1))
    case measure => omega
    case rel =>
     refine ⟨kk + 1, by omega, by omega, by go_num, hb', (show Aside _ from fun j hj => ?_)⟩
     by_cases e : j = kk
     ·subst e
      rw [B.out]; exact hq
     ·exact AN.out j (by omega)
  ·have hltz : ¬ (kk : Int) < (n : Int) := by omega
   have : kk = n := by omega
   subst this
   go_wp2
   go_ret
   refine ⟨?_, BW.out⟩
   rw [Lib.idxBy_miss (fun _ y => p y) l kk default AN.out]
   rfl
theorem contains [Inhabited α] (L : SlLaysH0.n8 P ρ) (d : Kd α) (k : Nat) (hk : d.sz = k) (aE : ∀ w, (isAgg (ρ.t 23)).run P w = .ok true w) (zE : ∀ w, (Go.sizeOf (ρ.t 23)).run P w = .ok k w) (p : α → Bool) (g : Nat) (lb : Array Value)
  (eg : ∀ args w, (callFunc g args).run P w = .ok (.enter g args) w) (A : Option Addr) (n c : Nat) (l : List α) (w : World) (hn : n = l.length) (hr : Kd.C d w A l.length l) (hp : Answers P g lb d l p w) :
  Calls P (ρ.f 8) #[.slice A n c, .func (.func g) #[] lb] w fun e w' => e = .returned (.bool (l.any p)) ∧ Go.RowKit.Below w.heap.size w w' := by
 rw [show l.any p = decide (0 ≤ Lib.idxBy (fun _ y => p y) (l.take n) default) by rw [Lib.idxBy_nonneg_iff, hn, List.take_length]]
 have mixed := L.mixed; have t0 := L.t0; have a0 := L.a0; have z0 := L.z0; have v0 := L.v0; have t3 := L.t3; have a3 := L.a3; have z3 := L.z3; have v3 := L.v3; have t4 := L.t4; have a4 := L.a4; have z4 := L.z4; have v4 := L.v4; have t22 := L.t22; have a22 := L.a22; have z22 := L.z22; have v22 := L.v22; have t25 := L.t25; have a25 := L.a25; have z25 := L.z25; have v25 := L.v25
 have e6 : ∀ args w, (callFunc (ρ.f 6) args).run P w = .ok (.enter (ρ.f 6) args) w := L.f6.enters rfl
 have hcon := index { L with } d k hk aE zE p g lb eg A n c l w hn hr hp
 clear hn hr hp hk
 obtain ⟨_, _, FG⟩ := L.f8
 go_enter FG, SlBodyH.n8_ntmps ρ
 go_wp2_with (go_at_fn (ρ.f 6); refine hcon.mono ?_; rintro e w' ⟨rfl, hb'⟩)
 go_ret
 exact ⟨rfl, hb'⟩
end Go.Proofs.YtghommaokdhjmaaGreat.Cont
namespace Go.Proofs.YtghommaokdhjmaaGreat.P
open Go.RowKit Go.Proofs.YtghommaokdhjmaaGreatW.PrintWords Go.Proofs.YtghommaokdhjmaaGreatW.PrintLast Gate
def slices_Index_string_string.l0 : Nat → List ByteArray → ByteArray → Int → Int → Option (Int)
 | 0, _, _, _, _ => none
 | k + 1, x0, x1, x7, x8 => if x8 < x7 then (if 0 ≤ x8 then (if x8 < (x0.length : Int) then (if x1.toList = (rdOf ByteArray.empty x0 x8).toList then (some x8) else (slices_Index_string_string.l0 k x0 x1 x7 (wrap64 (x8 + 1)))) else (none)) else (none)) else (some (-1))
def slices_Index_string_string.f (k : Nat) (l0 : List ByteArray) (a1 : ByteArray) : Option (Int) := slices_Index_string_string.l0 k l0 a1 (l0.length : Int) 0
set_option maxHeartbeats 8000000 in
set_option maxRecDepth 100000 in
theorem slices_Index_string_string.calls (k : Nat) (A0 : Option Addr) (c0 : Nat) (l0 : List ByteArray) (a1 : ByteArray) (r : Int) (w : World) (hr0 : Kd.C Kd.string w A0 l0.length l0) (hc0 : l0.length ≤ c0) (h : slices_Index_string_string.f k l0 a1 = some r) :
  Calls Tryz.prog 126 #[.slice A0 l0.length c0, .string a1] w fun e w' => e = .returned (.int .i64 r) ∧ Drawn0 w w' := by
 have HR0 := Aside0.mk hr0
 have HC0 := Aside0.mk hc0
 clear hr0 hc0
 have H : (slices_Index_string_string.l0 k l0 a1 (l0.length : Int) 0) = some r := h
 clear h
 have H' := Aside0.mk H
 clear H
 go_enter Tryz.func126, Tryz.ntmps126
 go_wp2
 go_loopg [8] k (fun kq v8 w' => ∃ (x8_1 : Int), v8 = .int .i64 x8_1 ∧ Aside0 (slices_Index_string_string.l0 kq l0 a1 (l0.length : Int) x8_1 = some r) ∧ Aside0 (kq ≤ k) ∧ Drawn0 w w')
 case atStart => exact ⟨(0), (by first | rfl | (simp; done) | (simp [*]; done)), H', ⟨Nat.le_refl _⟩, by repeat (first | exact Drawn0.refl _ | apply Drawn0.step)⟩
 case round =>
  clear H'
  (try clear c1); (try clear p2)
  obtain ⟨x8_1, rfl, HA, HK1, ⟨m1, rfl⟩⟩ := hrel
  cases gk with
  | zero => exact absurd HA.out (by simp [slices_Index_string_string.l0])
  | succ k1 =>
   have H := HA.out
   clear HA
   simp only [slices_Index_string_string.l0] at H
   by_cases c3 : x8_1 < (l0.length : Int)
   ·rw [if_pos c3] at H
    have c3b0 : decide (x8_1 < (l0.length : Int)) = true := decide_eq_true c3
    clear c3
    by_cases c4 : 0 ≤ x8_1
    ·rw [if_pos c4] at H
     have c4b0 : decide (0 ≤ x8_1) = true := decide_eq_true c4
     clear c4
     by_cases c5 : x8_1 < (l0.length : Int)
     ·rw [if_pos c5] at H
      have c5b0 : decide (x8_1 < (l0.length : Int)) = true := decide_eq_true c5
      clear c5
      by_cases c6 : a1.toList = (rdOf ByteArray.empty l0 x8_1).toList
      ·rw [if_pos c6] at H
       have c6b0 : (a1.toList == (rdOf ByteArray.empty l0 x8_1).toList) = true := beq_iff_eq.mpr c6
       have c6b1 : (a1.toList != (rdOf ByteArray.empty l0 x8_1).toList) = false := bne_eq_false_iff_eq.mpr c6
       clear c6
       obtain rfl := Option.some.inj H
       have p121 : 0 ≤ (x8_1 : Int) := of_decide_eq_true (by first | (with_reducible assumption) | assumption)
       have q121 : x8_1 < (l0.length : Int) := of_decide_eq_true (by first | (with_reducible assumption) | assumption)
       obtain ⟨ad121, e121, hx121_0⟩ := Kd.at_string HR0.out x8_1 p121 q121
       cases e121
       replace p121 := eq_true p121
       replace q121 := eq_true q121
       go_wp2
       go_ret
       exact drz
      ·rw [if_neg c6] at H
       have c6b0 : (a1.toList == (rdOf ByteArray.empty l0 x8_1).toList) = false := beq_eq_false_iff_ne.mpr c6
       have c6b1 : (a1.toList != (rdOf ByteArray.empty l0 x8_1).toList) = true := bne_iff_ne.mpr c6
       have H' := Aside0.mk H
       clear H
       have p121 : 0 ≤ (x8_1 : Int) := of_decide_eq_true (by first | (with_reducible assumption) | assumption)
       have q121 : x8_1 < (l0.length : Int) := of_decide_eq_true (by first | (with_reducible assumption) | assumption)
       obtain ⟨ad121, e121, hx121_0⟩ := Kd.at_string HR0.out x8_1 p121 q121
       cases e121
       replace p121 := eq_true p121
       replace q121 := eq_true q121
       go_wp2
       go_roundg k1
       case measure => have := HK1.out; omega
       case rel => exact ⟨(wrap64 (x8_1 + 1)), (by first | rfl | (simp; done) | (simp [*]; done)), H', ⟨by have := HK1.out; omega⟩, by repeat (first | exact Drawn0.refl _ | apply Drawn0.step)⟩
     ·rw [if_neg c5] at H
      exact absurd H (by simp)
    ·rw [if_neg c4] at H
     exact absurd H (by simp)
   ·rw [if_neg c3] at H
    have c3b0 : decide (x8_1 < (l0.length : Int)) = false := decide_eq_false c3
    clear c3
    obtain rfl := Option.some.inj H
    go_wp2
    go_ret
    exact drz
def slices_Contains_string_string.f (k : Nat) (l0 : List ByteArray) (a1 : ByteArray) : Option (Bool) := (slices_Index_string_string.f k l0 a1).bind fun t122 => (some (decide (t122 ≥ 0)))
set_option maxHeartbeats 8000000 in
set_option maxRecDepth 100000 in
theorem slices_Contains_string_string.calls (k : Nat) (A0 : Option Addr) (c0 : Nat) (l0 : List ByteArray) (a1 : ByteArray) (r : Bool) (w : World) (hr0 : Kd.C Kd.string w A0 l0.length l0) (hc0 : l0.length ≤ c0) (h : slices_Contains_string_string.f k l0 a1 = some r) :
  Calls Tryz.prog 105 #[.slice A0 l0.length c0, .string a1] w fun e w' => e = .returned (.bool r) ∧ Drawn0 w w' := by
 have HR0 := Aside0.mk hr0
 have HC0 := Aside0.mk hc0
 clear hr0 hc0
 have H : ((slices_Index_string_string.f k l0 a1).bind fun t122 => (some (decide (t122 ≥ 0)))) = some r := h
 clear h
 replace H := Option.bind_eq_some_iff.mp H
 obtain ⟨t122, A30, H⟩ := H
 replace H : (some (decide (t122 ≥ 0))) = some r := H
 have A3 := Aside0.mk A30
 clear A30
 obtain rfl := Option.some.inj H
 go_enter Tryz.func105, Tryz.ntmps105
 go_wp2_with (first | ((with_reducible refine gate_callee (f := 126) rfl ?_); refine goesL_ (some 7) rfl rfl Tryz.func126 (by kernel_rfl) rfl #[.slice A0 l0.length c0, .string a1] rfl aG ?_; (with_reducible refine (slices_Index_string_string.calls k _ _ l0 a1 t122 _ ?side1 ?side2 A3.out).mono ?_); (case side1 => exact sC HR0.out); (case side2 => exact HC0.out); rintro e w' ⟨rfl, ⟨nd, rfl⟩⟩; refine ⟨_, rfl, ?_⟩))
 go_ret
 exact drz
def fact_word.f (k : Nat) (a0 : ByteArray) : Option (Bool) := (slices_Contains_string_string.f k (([(⟨#[102, 97, 99, 116]⟩ : ByteArray), (⟨#[114, 117, 108, 101]⟩ : ByteArray), (⟨#[112, 97, 116, 116, 101, 114, 110]⟩ : ByteArray), (⟨#[110, 111, 116]⟩ : ByteArray), (⟨#[97, 110, 100]⟩ : ByteArray), (⟨#[111, 114]⟩ : ByteArray), (⟨#[98, 101, 102, 111, 114, 101]⟩ : ByteArray), (⟨#[111, 110, 99, 101]⟩ : ByteArray), (⟨#[97, 108, 119, 97, 121, 115]⟩ : ByteArray), (⟨#[115, 105, 110, 99, 101]⟩ : ByteArray), (⟨#[100, 114, 111, 112]⟩ : ByteArray)] : List ByteArray)) a0).bind fun t126 => (some t126)
set_option maxHeartbeats 8000000 in
set_option maxRecDepth 100000 in
theorem fact_word.calls (k : Nat) (a0 : ByteArray) (r : Bool) (w : World) (h : fact_word.f k a0 = some r) :
  Calls Tryz.prog 109 #[.string a0] w fun e w' => e = .returned (.bool r) ∧ Below w.heap.size w w' := by
 have HB := Aside0.mk (Below.refl w.heap.size w)
 have H : ((slices_Contains_string_string.f k (([(⟨#[102, 97, 99, 116]⟩ : ByteArray), (⟨#[114, 117, 108, 101]⟩ : ByteArray), (⟨#[112, 97, 116, 116, 101, 114, 110]⟩ : ByteArray), (⟨#[110, 111, 116]⟩ : ByteArray), (⟨#[97, 110, 100]⟩ : ByteArray), (⟨#[111, 114]⟩ : ByteArray), (⟨#[98, 101, 102, 111, 114, 101]⟩ : ByteArray), (⟨#[111, 110, 99, 101]⟩ : ByteArray), (⟨#[97, 108, 119, 97, 121, 115]⟩ : ByteArray), (⟨#[115, 105, 110, 99, 101]⟩ : ByteArray), (⟨#[100, 114, 111, 112]⟩ : ByteArray)] : List ByteArray)) a0).bind fun t126 => (some t126)) = some r := h
 clear h
 obtain ⟨y123, hy123⟩ : ∃ y_ : List ByteArray, y_ = (([(⟨#[102, 97, 99, 116]⟩ : ByteArray), (⟨#[114, 117, 108, 101]⟩ : ByteArray), (⟨#[112, 97, 116, 116, 101, 114, 110]⟩ : ByteArray), (⟨#[110, 111, 116]⟩ : ByteArray), (⟨#[97, 110, 100]⟩ : ByteArray), (⟨#[111, 114]⟩ : ByteArray), (⟨#[98, 101, 102, 111, 114, 101]⟩ : ByteArray), (⟨#[111, 110, 99, 101]⟩ : ByteArray), (⟨#[97, 108, 119, 97, 121, 115]⟩ : ByteArray), (⟨#[115, 105, 110, 99, 101]⟩ : ByteArray), (⟨#[100, 114, 111, 112]⟩ : ByteArray)] : List ByteArray)) := ⟨_, rfl⟩
 replace H : ((slices_Contains_string_string.f k y123 a0).bind fun t126 => (some t126)) = some r := by first | (rw [hy123]; with_reducible exact H) | (have H2_ := (Option.bind_some _ _).symm.trans H; rw [hy123]; with_reducible exact H2_) | (have H2_ := (Option.bind_some _ _).symm.trans H; with_reducible exact H2_) | with_reducible exact H | (rw [hy123]; exact H) | exact H
 have Ny123 := Aside0.mk hy123
 clear hy123
 replace H := Option.bind_eq_some_iff.mp H
 obtain ⟨t126, A20, H⟩ := H
 replace H : (some t126) = some r := H
 have A2 := Aside0.mk A20
 clear A20
 obtain rfl := Option.some.inj H
 go_enter Tryz.func109, Tryz.ntmps109
 go_wp2_with (first | ((with_reducible refine gate_dst (N := 3) rfl ?_); refine Kd.R_lit Kd.string _ 9 ?hg (N := 3) ?hd (xs := ([(⟨#[102, 97, 99, 116]⟩ : ByteArray), (⟨#[114, 117, 108, 101]⟩ : ByteArray), (⟨#[112, 97, 116, 116, 101, 114, 110]⟩ : ByteArray), (⟨#[110, 111, 116]⟩ : ByteArray), (⟨#[97, 110, 100]⟩ : ByteArray), (⟨#[111, 114]⟩ : ByteArray), (⟨#[98, 101, 102, 111, 114, 101]⟩ : ByteArray), (⟨#[111, 110, 99, 101]⟩ : ByteArray), (⟨#[97, 108, 119, 97, 121, 115]⟩ : ByteArray), (⟨#[115, 105, 110, 99, 101]⟩ : ByteArray), (⟨#[100, 114, 111, 112]⟩ : ByteArray)] : List ByteArray)) (inner := [.string (⟨#[102, 97, 99, 116]⟩ : ByteArray), .string (⟨#[114, 117, 108, 101]⟩ : ByteArray), .string (⟨#[112, 97, 116, 116, 101, 114, 110]⟩ : ByteArray), .string (⟨#[110, 111, 116]⟩ : ByteArray), .string (⟨#[97, 110, 100]⟩ : ByteArray), .string (⟨#[111, 114]⟩ : ByteArray), .string (⟨#[98, 101, 102, 111, 114, 101]⟩ : ByteArray), .string (⟨#[111, 110, 99, 101]⟩ : ByteArray), .string (⟨#[97, 108, 119, 97, 121, 115]⟩ : ByteArray), .string (⟨#[115, 105, 110, 99, 101]⟩ : ByteArray), .string (⟨#[100, 114, 111, 112]⟩ : ByteArray)]) (ok := fun _ => True) (okp := fun _ => True) ?hr ?hp (fun _ hk => hk) trivial (Below.refl _ _) (Nat.le_refl _) (by simp) ?_; (case hd => rfl); (case hg => rfl); (case hr => first | (go_simp; done) | (go_simp; rfl)); (case hp => exact (Reps.one (show Kd.M Kd.string _ _ _ (⟨#[102, 97, 99, 116]⟩ : ByteArray) [.string (⟨#[102, 97, 99, 116]⟩ : ByteArray)] from rfl) (Reps.one (show Kd.M Kd.string _ _ _ (⟨#[114, 117, 108, 101]⟩ : ByteArray) [.string (⟨#[114, 117, 108, 101]⟩ : ByteArray)] from rfl) (Reps.one (show Kd.M Kd.string _ _ _ (⟨#[112, 97, 116, 116, 101, 114, 110]⟩ : ByteArray) [.string (⟨#[112, 97, 116, 116, 101, 114, 110]⟩ : ByteArray)] from rfl) (Reps.one (show Kd.M Kd.string _ _ _ (⟨#[110, 111, 116]⟩ : ByteArray) [.string (⟨#[110, 111, 116]⟩ : ByteArray)] from rfl) (Reps.one (show Kd.M Kd.string _ _ _ (⟨#[97, 110, 100]⟩ : ByteArray) [.string (⟨#[97, 110, 100]⟩ : ByteArray)] from rfl) (Reps.one (show Kd.M Kd.string _ _ _ (⟨#[111, 114]⟩ : ByteArray) [.string (⟨#[111, 114]⟩ : ByteArray)] from rfl) (Reps.one (show Kd.M Kd.string _ _ _ (⟨#[98, 101, 102, 111, 114, 101]⟩ : ByteArray) [.string (⟨#[98, 101, 102, 111, 114, 101]⟩ : ByteArray)] from rfl) (Reps.one (show Kd.M Kd.string _ _ _ (⟨#[111, 110, 99, 101]⟩ : ByteArray) [.string (⟨#[111, 110, 99, 101]⟩ : ByteArray)] from rfl) (Reps.one (show Kd.M Kd.string _ _ _ (⟨#[97, 108, 119, 97, 121, 115]⟩ : ByteArray) [.string (⟨#[97, 108, 119, 97, 121, 115]⟩ : ByteArray)] from rfl) (Reps.one (show Kd.M Kd.string _ _ _ (⟨#[115, 105, 110, 99, 101]⟩ : ByteArray) [.string (⟨#[115, 105, 110, 99, 101]⟩ : ByteArray)] from rfl) (Reps.one (show Kd.M Kd.string _ _ _ (⟨#[100, 114, 111, 112]⟩ : ByteArray) [.string (⟨#[100, 114, 111, 112]⟩ : ByteArray)] from rfl) (Reps.none _ _))))))))))))); intro v124 w3 ho4 hb hg_ hnew_; clear hg_ hnew_; (first | rw [← Ny123.out] at ho4 | (simp only [Int.reduceToNat] at ho4; rw [← Ny123.out] at ho4)); have n0_ := Aside0.mk (Kd.R_lower ho4 (below_size bB0)); have n1_ := Aside0.mk (below_step bB0 hb); clear HB; have HO125 := n0_; have HB := n1_; clear n0_ n1_; clear hb ho4; obtain ⟨Ao5, co5, eo5⟩ := Kd.R_slice HO125.out; subst eo5) | ((with_reducible refine gate_callee (f := 105) rfl ?_); refine goesL_ (some 5) rfl rfl Tryz.func105 (by kernel_rfl) rfl #[.slice Ao5 y123.length co5, .string a0] rfl aG ?_; (with_reducible refine (slices_Contains_string_string.calls k _ _ y123 a0 t126 _ ?side1 ?side2 A2.out).mono ?_); (case side1 => exact sC (Kd.R_reads' HO125.out).2.2); (case side2 => exact (Kd.R_reads' HO125.out).2.1); rintro e w' ⟨rfl, ⟨nd, rfl⟩⟩; refine ⟨_, rfl, ?_⟩))
 go_ret
 exact ⟨eW, bB0⟩
def fact_Name.f (k : Nat) (a0 : ByteArray) : Option (Bool) := (val_Check.f k 2 0 a0).bind fun t127 => (if t127 = 0 then ((fact_word.f k a0).bind fun t128 => (some (!t128))) else (some false))
set_option maxHeartbeats 8000000 in
set_option maxRecDepth 100000 in
theorem fact_Name.calls (k : Nat) (a0 : ByteArray) (r : Bool) (w : World) (h : fact_Name.f k a0 = some r) :
  Calls Tryz.prog 86 #[.string a0] w fun e w' => e = .returned (.bool r) ∧ Below w.heap.size w w' := by
 have hu64 := Tryz.underlying64
 have HB := Aside0.mk (Below.refl w.heap.size w)
 have H : ((val_Check.f k 2 0 a0).bind fun t127 => (if t127 = 0 then ((fact_word.f k a0).bind fun t128 => (some (!t128))) else (some false))) = some r := h
 clear h
 replace H := Option.bind_eq_some_iff.mp H
 obtain ⟨t127, A20, H⟩ := H
 replace H : (if t127 = 0 then ((fact_word.f k a0).bind fun t128 => (some (!t128))) else (some false)) = some r := H
 have A2 := Aside0.mk A20
 clear A20
 by_cases c3 : t127 = 0
 ·rw [if_pos c3] at H
  have c3b0 : (t127 == 0) = true := beq_iff_eq.mpr c3
  have c3b1 : (t127 != 0) = false := bne_eq_false_iff_eq.mpr c3
  clear c3
  replace H := Option.bind_eq_some_iff.mp H
  obtain ⟨t128, A40, H⟩ := H
  replace H : (some (!t128)) = some r := H
  have A4 := Aside0.mk A40
  clear A40
  obtain rfl := Option.some.inj H
  go_enter Tryz.func86, Tryz.ntmps86
  go_wp2_with (first | ((with_reducible refine gate_callee (f := 92) rfl ?_); refine goesL_ (some 5) rfl rfl Tryz.func92 (by kernel_rfl) rfl #[.agg #[.int .i64 2, .int .i64 0, .string a0]] rfl aG ?_; (with_reducible refine (val_Check.calls k 2 0 a0 t127 _ A2.out).mono ?_); rintro e w5 ⟨rfl, hb⟩; refine ⟨_, rfl, ?_⟩; have n0_ := Aside0.mk (below_step bB0 hb); clear HB; have HB := n0_; clear n0_; (try clear hb); (try clear hb2); (try clear hk); (try clear hi)) | (go_at_call 109; (with_reducible refine (fact_word.calls k a0 t128 _ A4.out).mono ?_); rintro e w6 ⟨rfl, hb⟩; have n0_ := Aside0.mk (below_step bB0 hb); clear HB; have HB := n0_; clear n0_; (try clear hb); (try clear hb2); (try clear hk); (try clear hi)))
  go_ret
  exact ⟨eW, bB0⟩
 ·rw [if_neg c3] at H
  have c3b0 : (t127 == 0) = false := beq_eq_false_iff_ne.mpr c3
  have c3b1 : (t127 != 0) = true := bne_iff_ne.mpr c3
  obtain rfl := Option.some.inj H
  go_enter Tryz.func86, Tryz.ntmps86
  go_wp2_with (first | ((with_reducible refine gate_callee (f := 92) rfl ?_); refine goesL_ (some 5) rfl rfl Tryz.func92 (by kernel_rfl) rfl #[.agg #[.int .i64 2, .int .i64 0, .string a0]] rfl aG ?_; (with_reducible refine (val_Check.calls k 2 0 a0 t127 _ A2.out).mono ?_); rintro e w7 ⟨rfl, hb⟩; refine ⟨_, rfl, ?_⟩; have n0_ := Aside0.mk (below_step bB0 hb); clear HB; have HB := n0_; clear n0_; (try clear hb); (try clear hb2); (try clear hk); (try clear hi)))
  go_ret
  exact ⟨eW, bB0⟩
end Go.Proofs.YtghommaokdhjmaaGreat.P
/- fact.Check and match.Check: their walks and what they answer as plain functions; texts no longer than a million bytes. -/
namespace Go.Proofs.YtghommaokdhjmaaGreat.FactC
open Go.Shelf Go.RowKit Go.Lib Go.Proofs.YtghommaokdhjmaaGreatW.PrintWords Go.Proofs.YtghommaokdhjmaaGreatW.PrintLast Gate P PSpec Cont
def renV : Ren := ⟨fun x => if x = 6 then 111 else if x = 8 then 90 else x, fun x => if x = 0 then 0 else if x = 3 then 3 else if x = 4 then 4 else if x = 22 then 56 else if x = 23 then 64 else if x = 25 then 83 else x, fun x => x⟩
set_option maxRecDepth 1000000 in
theorem laysV : SlLaysH0.n8 Tryz.prog renV := by
 refine ⟨by kernel_rfl, ⟨ "slices.IndexFunc[[]constable/api.Value,constable/api.Value]", by decide, by kernel_rfl⟩, ⟨ "slices.ContainsFunc[[]constable/api.Value,constable/api.Value]", by decide, by kernel_rfl⟩, ?_, ?_, ?_, ?_, ?_, ?_, ?_, ?_, ?_, ?_, ?_, ?_, ?_, ?_, ?_, ?_, ?_, ?_, ?_, ?_⟩ <;> first | kernel_rfl | (intro w; kernel_rfl)
instance : Inhabited S64 := ⟨z64⟩
def wrongV (x : S64) : Bool := !(valP x.f0 x.f1 x.f2 == 0)
def fitV (l : List S64) : Bool := l.all fun x => decide (x.f2.size ≤ 1000000)
theorem fitV_mem {l : List S64} : fitV l = true ↔ ∀ x ∈ l, x.f2.size ≤ 1000000 := by
 unfold fitV
 rw [List.all_eq_true]
 simp only [decide_eq_true_eq]
set_option maxHeartbeats 4000000 in
set_option maxRecDepth 1000000 in
theorem closV (x : S64) (hx : x.f2.size ≤ 1000000) (W : World) : Calls Tryz.prog 91 #[.agg #[.int .i64 x.f0, .int .i64 x.f1, .string x.f2]] W fun e w' => e = .returned (.bool (wrongV x)) ∧ Go.RowKit.Below W.heap.size W w' := by
 have hu := Tryz.underlying64
 have hcon := fun W' => val_Check.calls 1000100 x.f0 x.f1 x.f2 _ W' (valP_eq x.f0 x.f1 x.f2 hx 1000100 (by omega))
 unfold wrongV
 generalize valP x.f0 x.f1 x.f2 = r at hcon ⊢
 have eg : ∀ args w, (callFunc 92 args).run Tryz.prog w = .ok (.enter 92 args) w := enters_of Tryz.func92 (by kernel_rfl) rfl
 go_enter Tryz.func91, Tryz.ntmps91
 go_wp2_with (go_at_fn 92; with_reducible refine (hcon _).mono ?_; rintro e w' ⟨rfl, hb⟩)
 go_ret
 exact ⟨rfl, below_step (by repeat (first | (with_reducible first | exact Go.RowKit.Below.refl _ _ | apply below_alloc | apply pw_below_drewN | apply below_drew1) | exact Go.RowKit.Below.refl _ _)) hb⟩
theorem ansV (l : List S64) (hf : fitV l = true) (w : World) : Answers Tryz.prog 91 #[] k64 l wrongV w := fun W x cs hW hx hl hK => by
 obtain rfl := k64_open hK
 exact (closV x (fitV_mem.1 hf x hx) W).mono fun e w' ⟨he, hb⟩ => ⟨he, hW.trans (hb.mono hW.size)⟩
theorem aggV : ∀ w, (isAgg 64).run Tryz.prog w = .ok true w := fun w => by kernel_rfl
theorem sizeV : ∀ w, (Go.sizeOf 64).run Tryz.prog w = .ok 3 w := fun w => by kernel_rfl
theorem containsV (A : Option Addr) (c : Nat) (l : List S64) (w : World) (hr : Kd.C k64 w A l.length l) (hf : fitV l = true) :
  Calls Tryz.prog 90 #[.slice A l.length c, .func (.func 91) #[] #[]] w fun e w' => e = .returned (.bool (l.any wrongV)) ∧ Go.RowKit.Below w.heap.size w w' :=
 contains laysV k64 3 rfl aggV sizeV wrongV 91 #[] (enters_of Tryz.func91 (by kernel_rfl) rfl) A l.length c l w rfl hr (ansV l hf w)
def wordsL : List ByteArray := [⟨#[102, 97, 99, 116]⟩, ⟨#[114, 117, 108, 101]⟩, ⟨#[112, 97, 116, 116, 101, 114, 110]⟩, ⟨#[110, 111, 116]⟩, ⟨#[97, 110, 100]⟩, ⟨#[111, 114]⟩, ⟨#[98, 101, 102, 111, 114, 101]⟩, ⟨#[111, 110, 99, 101]⟩, ⟨#[97, 108, 119, 97, 121, 115]⟩, ⟨#[115, 105, 110, 99, 101]⟩, ⟨#[100, 114, 111, 112]⟩]
def nameP (s : ByteArray) : Bool := valP 2 0 s == 0 && !wordsL.any fun x => decide (s = x)
theorem tl_iff (a b : ByteArray) : a.toList = b.toList ↔ a = b := by
 rw [ByteArray.toList_eq, ByteArray.toList_eq]
 constructor
 ·intro h
  have h2 := Array.toList_inj.1 h
  cases a; cases b
  simp at h2
  rw [h2]
 ·intro h; rw [h]
theorem index_loop (l : List ByteArray) (s : ByteArray) (hl : l.length ≤ 1000000) : ∀ (m i : Nat), i + m = l.length → ∃ r, Ev (fun k => slices_Index_string_string.l0 k l s (l.length : Int) i) r ∧ (decide (r ≥ 0) = ((l.drop i).any fun x => decide (s = x))) := by
 intro m
 induction m with
 | zero =>
  intro i h
  refine ⟨-1, Ev.step (fun k => by rw [slices_Index_string_string.l0, if_neg (by omega)]) (Ev.now _), ?_⟩
  rw [List.drop_eq_nil_of_le (by omega)]; rfl
 | succ m ih =>
  intro i h
  have hi : i < l.length := by omega
  have hrd : rdOf ByteArray.empty l (i : Int) = l[i] := by
   unfold rdOf
   rw [Int.toNat_natCast, List.getD_eq_getElem?_getD, List.getElem?_eq_getElem hi]; rfl
  rw [List.drop_eq_getElem_cons hi, List.any_cons]
  by_cases e : s = l[i]
  ·refine ⟨i, Ev.step (fun k => by rw [slices_Index_string_string.l0, if_pos (by omega), if_pos (by omega), if_pos (by omega), hrd, if_pos ((tl_iff _ _).2 e)]) (Ev.now _), ?_⟩
   rw [decide_eq_true (show (i : Int) ≥ 0 by omega), decide_eq_true e, Bool.true_or]
  ·obtain ⟨r, h1, h2⟩ := ih (i + 1) (by omega)
   refine ⟨r, Ev.step (fun k => by rw [slices_Index_string_string.l0, if_pos (by omega), if_pos (by omega), if_pos (by omega), hrd, if_neg (fun h => e ((tl_iff _ _).1 h)), w64 hl hi]) h1, ?_⟩
   rw [h2, decide_eq_false e, Bool.false_or]
theorem ev_name (s : ByteArray) (hs : s.size ≤ 1000000) : Ev (fun k => fact_Name.f k s) (nameP s) := by
 unfold fact_Name.f nameP
 refine Ev.bind (⟨s.size + 40, fun k hk => valP_eq 2 0 s hs k hk⟩ : Ev (fun k => val_Check.f k 2 0 s) (valP 2 0 s)) ?_
 by_cases h : valP 2 0 s = 0
 ·simp only [if_pos h]
  rw [show (valP 2 0 s == 0) = true by rw [h]; rfl, Bool.true_and]
  unfold fact_word.f slices_Contains_string_string.f slices_Index_string_string.f
  obtain ⟨r, h1, h2⟩ := index_loop wordsL s (by decide) wordsL.length 0 (by omega)
  rw [List.drop_zero] at h2
  rw [← h2]
  refine Ev.bind (a := decide (r ≥ 0)) ?_ (Ev.now _)
  refine Ev.bind (a := decide (r ≥ 0)) ?_ (Ev.now _)
  exact Ev.bind h1 (Ev.now _)
 ·simp only [if_neg h]
  rw [beq_eq_false_iff_ne.2 h, Bool.false_and]
  exact Ev.now _
theorem name_calls (s : ByteArray) (hs : s.size ≤ 1000000) (w : World) : Calls Tryz.prog 86 #[.string s] w fun e w' => e = .returned (.bool (nameP s)) ∧ Go.RowKit.Below w.heap.size w w' := by
 obtain ⟨k, hk⟩ := (ev_name s hs).rounds
 exact fact_Name.calls k s _ w hk
end Go.Proofs.YtghommaokdhjmaaGreat.FactC
namespace Go.Proofs.YtghommaokdhjmaaGreat.P
open Go.Shelf Go.RowKit Go.Lib Go.Proofs.YtghommaokdhjmaaGreatW.PrintWords Go.Proofs.YtghommaokdhjmaaGreatW.PrintLast Gate PSpec Cont FactC
def factP (s : ByteArray) (l : List S64) : Int := if nameP s = true ∧ l.length ≤ 5 ∧ l.any wrongV = false then 0 else 1
def fact_Check.f (a0_0 : ByteArray) (l0_1 : List (S64)) : Option (Int) := if a0_0.size ≤ 1000000 ∧ fitV l0_1 = true then some (factP a0_0 l0_1) else none
set_option maxHeartbeats 4000000 in
set_option maxRecDepth 1000000 in
theorem fact_Check.calls (a0_0 : ByteArray) (A0_1 : Option Addr) (c0_1 : Nat) (l0_1 : List (S64)) (r : Int) (w : World) (hr0_1 : Kd.C k64 w A0_1 l0_1.length l0_1) (hc0_1 : l0_1.length ≤ c0_1) (h : fact_Check.f a0_0 l0_1 = some r) :
  Calls Tryz.prog 59 #[.agg #[.string a0_0, .slice A0_1 l0_1.length c0_1]] w fun e w' => e = .returned (.int .i64 r) ∧ Go.RowKit.Below w.heap.size w w' := by
 have hfit : a0_0.size ≤ 1000000 ∧ fitV l0_1 = true := by
  unfold fact_Check.f at h
  by_cases hc : a0_0.size ≤ 1000000 ∧ fitV l0_1 = true
  ·exact hc
  ·rw [if_neg hc] at h; cases h
 obtain rfl : factP a0_0 l0_1 = r := by
  unfold fact_Check.f at h
  rw [if_pos hfit] at h
  exact Option.some.inj h
 clear h
 have hu := Tryz.underlying58
 have hname := fun W => name_calls a0_0 hfit.1 W
 have HR := Aside0.mk hr0_1
 have HF := Aside0.mk hfit
 have hcon : ∀ W, Go.RowKit.Below w.heap.size w W → Calls Tryz.prog 90 #[.slice A0_1 l0_1.length c0_1, .func (.func 91) #[] #[]] W fun e w' => e = .returned (.bool (l0_1.any wrongV)) ∧ Go.RowKit.Below W.heap.size W w' := fun W hW => containsV A0_1 c0_1 l0_1 W (Kd.C_below HR.out hW) HF.out.2
 clear hr0_1 hc0_1 hfit
 unfold factP
 have HCo : Aside0 (∀ W, Go.RowKit.Below w.heap.size w W → Calls Tryz.prog 90 #[.slice A0_1 l0_1.length c0_1, .func (.func 91) #[] #[]] W fun e w' => e = .returned (.bool (l0_1.any wrongV)) ∧ Go.RowKit.Below W.heap.size W w') := Aside0.mk hcon
 clear hcon
 generalize l0_1.any wrongV = q at HCo ⊢
 generalize nameP a0_0 = m at hname ⊢
 generalize l0_1.length = n at HCo ⊢
 have eg : ∀ args w, (callFunc 86 args).run Tryz.prog w = .ok (.enter 86 args) w := enters_of Tryz.func86 (by kernel_rfl) rfl
 have eg2 : ∀ args w, (callFunc 90 args).run Tryz.prog w = .ok (.enter 90 args) w := enters_of Tryz.func90 (by kernel_rfl) rfl
 have hB0 : Aside0 (Go.RowKit.Below w.heap.size w (w.alloc (.cells #[.string a0_0, .slice A0_1 n c0_1] 58))) := Aside0.mk ((Go.RowKit.Below.refl _ w).alloc (Nat.le_refl _) _)
 cases m with
 | false =>
  rw [if_neg (by simp)]
  go_enter Tryz.func59, Tryz.ntmps59
  go_wp2_with (go_at_fn 86; with_reducible refine (hname _).mono ?_; rintro e w1 ⟨rfl, hb⟩)
  go_ret
  exact ⟨rfl, hB0.out.trans (hb.mono (by simp))⟩
 | true =>
  by_cases h5 : n ≤ 5
  ·have h5b : ¬ (5 < (n : Int)) := by omega
   cases q with
   | false =>
    rw [if_pos ⟨rfl, h5, rfl⟩]
    go_enter Tryz.func59, Tryz.ntmps59
    go_wp2_with (first | (go_at_fn 86; with_reducible refine (hname _).mono ?_; rintro e w1 ⟨rfl, hb⟩; have hc1 := (hb.cell (p := ⟨w.heap.size, 1, none⟩) (by simp)).trans (show (w.alloc (.cells #[.string a0_0, .slice A0_1 n c0_1] 58)).cell? ⟨w.heap.size, 1, none⟩ = some (.slice A0_1 n c0_1) by simp)) | (go_at_fn 90; with_reducible refine (HCo.out _ (hB0.out.trans (hb.mono (by simp)))).mono ?_; rintro e w2 ⟨rfl, hb2⟩))
    go_ret
    exact ⟨rfl, (hB0.out.trans (hb.mono (by simp))).trans (hb2.mono (hB0.out.trans (hb.mono (by simp))).size)⟩
   | true =>
    rw [if_neg (by simp)]
    go_enter Tryz.func59, Tryz.ntmps59
    go_wp2_with (first | (go_at_fn 86; with_reducible refine (hname _).mono ?_; rintro e w1 ⟨rfl, hb⟩; have hc1 := (hb.cell (p := ⟨w.heap.size, 1, none⟩) (by simp)).trans (show (w.alloc (.cells #[.string a0_0, .slice A0_1 n c0_1] 58)).cell? ⟨w.heap.size, 1, none⟩ = some (.slice A0_1 n c0_1) by simp)) | (go_at_fn 90; with_reducible refine (HCo.out _ (hB0.out.trans (hb.mono (by simp)))).mono ?_; rintro e w2 ⟨rfl, hb2⟩))
    go_ret
    exact ⟨rfl, (hB0.out.trans (hb.mono (by simp))).trans (hb2.mono (hB0.out.trans (hb.mono (by simp))).size)⟩
  ·have h5b : 5 < (n : Int) := by omega
   rw [if_neg (fun h => h5 h.2.1)]
   go_enter Tryz.func59, Tryz.ntmps59
   go_wp2_with (go_at_fn 86; with_reducible refine (hname _).mono ?_; rintro e w1 ⟨rfl, hb⟩; have hc1 := (hb.cell (p := ⟨w.heap.size, 1, none⟩) (by simp)).trans (show (w.alloc (.cells #[.string a0_0, .slice A0_1 n c0_1] 58)).cell? ⟨w.heap.size, 1, none⟩ = some (.slice A0_1 n c0_1) by simp))
   go_ret
   exact ⟨rfl, hB0.out.trans (hb.mono (by simp))⟩
end Go.Proofs.YtghommaokdhjmaaGreat.P
namespace Go.Proofs.YtghommaokdhjmaaGreat.P
open Go.RowKit Go.Proofs.YtghommaokdhjmaaGreatW.PrintWords Go.Proofs.YtghommaokdhjmaaGreatW.PrintLast Gate
attribute [local go_sem high] eqA64
def match_Term.f (k : Nat) (a0_0 : ByteArray) (a0_1 : Int) (a0_2 : Int) (a0_3 : ByteArray) : Option (Bool) := if a0_0.toList = ([] : List UInt8) then ((val_Check.f k a0_1 a0_2 a0_3).bind fun t1009 => (some (t1009 == 0))) else ((subst_Var.f k a0_0).bind fun t1010 => (if t1010 = true then (some (a0_1 == 0 && (a0_2 == 0 && (a0_3.toList == ([] : List UInt8))))) else (some false)))
set_option maxHeartbeats 8000000 in
set_option maxRecDepth 100000 in
theorem match_Term.calls (k : Nat) (a0_0 : ByteArray) (a0_1 : Int) (a0_2 : Int) (a0_3 : ByteArray) (r : Bool) (w : World) (h : match_Term.f k a0_0 a0_1 a0_2 a0_3 = some r) :
  Calls Tryz.prog 89 #[.agg #[.string a0_0, .int .i64 a0_1, .int .i64 a0_2, .string a0_3]] w fun e w' => e = .returned (.bool r) ∧ Below w.heap.size w w' := by
 have hu92 := Tryz.underlying92
 have hu64 := Tryz.underlying64
 have HB := Aside0.mk (Below.refl w.heap.size w)
 have H : (if a0_0.toList = ([] : List UInt8) then ((val_Check.f k a0_1 a0_2 a0_3).bind fun t1009 => (some (t1009 == 0))) else ((subst_Var.f k a0_0).bind fun t1010 => (if t1010 = true then (some (a0_1 == 0 && (a0_2 == 0 && (a0_3.toList == ([] : List UInt8))))) else (some false)))) = some r := h
 clear h
 by_cases c2 : a0_0.toList = ([] : List UInt8)
 ·rw [if_pos c2] at H
  have c2b0 : (a0_0.toList == ([] : List UInt8)) = true := beq_iff_eq.mpr c2
  have c2b1 : (a0_0.toList != ([] : List UInt8)) = false := bne_eq_false_iff_eq.mpr c2
  clear c2
  replace H := Option.bind_eq_some_iff.mp H
  obtain ⟨t1009, A30, H⟩ := H
  replace H : (some (t1009 == 0)) = some r := H
  have A3 := Aside0.mk A30
  clear A30
  obtain rfl := Option.some.inj H
  go_enter Tryz.func89, Tryz.ntmps89
  go_wp2_with (first | ((with_reducible refine gate_dst (N := 1) rfl ?_); refine bE (N := 1) (cs := #[.string a0_0, .int .i64 a0_1, .int .i64 a0_2, .string a0_3]) (t := 92) ?_; intro gb1008 hg w4 hbox hb; have n0_ := Aside0.mk (below_step bB0 hb); have n1_ := Aside0.mk (hbox); have n2_ := Aside0.mk ((by rw [hg]; exact (below_size bB0) : w.heap.size ≤ gb1008)); have n3_ := Aside0.mk ((by rw [hg]; exact (below_size bB0) : w.heap.size ≤ gb1008)); clear HB; have HB := n0_; have BK1008 := n1_; have GW1008 := n2_; have GE1008 := n3_; clear n0_ n1_ n2_ n3_; clear hb hbox hg; have hcz5_0 : w4.cell? ⟨gb1008, 0, none⟩ = some (.string a0_0) := (blk_cell BK1008.out 0).trans rfl; have hcz5_1 : w4.cell? ⟨gb1008, 1, none⟩ = some (.int .i64 a0_1) := (blk_cell BK1008.out 1).trans rfl; have hcz5_2 : w4.cell? ⟨gb1008, 2, none⟩ = some (.int .i64 a0_2) := (blk_cell BK1008.out 2).trans rfl; have hcz5_3 : w4.cell? ⟨gb1008, 3, none⟩ = some (.string a0_3) := (blk_cell BK1008.out 3).trans rfl; have hfz5_0 := blk_frozen BK1008.out 0; have hfz5_1 := blk_frozen BK1008.out 1; have hfz5_2 := blk_frozen BK1008.out 2; have hfz5_3 := blk_frozen BK1008.out 3) | ((with_reducible refine gate_callee (f := 92) rfl ?_); refine goesL_ (some 8) rfl rfl Tryz.func92 (by kernel_rfl) rfl #[.agg #[.int .i64 a0_1, .int .i64 a0_2, .string a0_3]] rfl aG ?_; (with_reducible refine (val_Check.calls k a0_1 a0_2 a0_3 t1009 _ A3.out).mono ?_); rintro e w6 ⟨rfl, hb⟩; refine ⟨_, rfl, ?_⟩; have n0_ := Aside0.mk (blk_below (g := gb1008) (o := .cells #[.string a0_0, .int .i64 a0_1, .int .i64 a0_2, .string a0_3] 92 (0, 0)) (by refine bk ?_; exact BK1008.out) hb); have n1_ := Aside0.mk (below_step (bB1 GE1008.out) hb); clear BK1008; clear HB; have BK1008 := n0_; have HB := n1_; clear n0_ n1_; (try clear hb); (try clear hb2); (try clear hk); (try clear hi)))
  go_ret
  exact ⟨eW, (bB1 GE1008.out)⟩
 ·rw [if_neg c2] at H
  have c2b0 : (a0_0.toList == ([] : List UInt8)) = false := beq_eq_false_iff_ne.mpr c2
  have c2b1 : (a0_0.toList != ([] : List UInt8)) = true := bne_iff_ne.mpr c2
  replace H := Option.bind_eq_some_iff.mp H
  obtain ⟨t1010, A70, H⟩ := H
  replace H : (if t1010 = true then (some (a0_1 == 0 && (a0_2 == 0 && (a0_3.toList == ([] : List UInt8))))) else (some false)) = some r := H
  have A7 := Aside0.mk A70
  clear A70
  by_cases c8 : t1010 = true
  ·subst c8
   have H1 : (some (a0_1 == 0 && (a0_2 == 0 && (a0_3.toList == ([] : List UInt8))))) = some r := by rw [if_pos rfl] at H; exact H
   clear H
   have H := H1
   clear H1
   obtain rfl := Option.some.inj H
   go_enter Tryz.func89, Tryz.ntmps89
   go_wp2_with (first | ((with_reducible refine gate_dst (N := 1) rfl ?_); refine bE (N := 1) (cs := #[.string a0_0, .int .i64 a0_1, .int .i64 a0_2, .string a0_3]) (t := 92) ?_; intro gb1008 hg w9 hbox hb; have n0_ := Aside0.mk (below_step bB0 hb); have n1_ := Aside0.mk (hbox); have n2_ := Aside0.mk ((by rw [hg]; exact (below_size bB0) : w.heap.size ≤ gb1008)); have n3_ := Aside0.mk ((by rw [hg]; exact (below_size bB0) : w.heap.size ≤ gb1008)); clear HB; have HB := n0_; have BK1008 := n1_; have GW1008 := n2_; have GE1008 := n3_; clear n0_ n1_ n2_ n3_; clear hb hbox hg; have hcz10_0 : w9.cell? ⟨gb1008, 0, none⟩ = some (.string a0_0) := (blk_cell BK1008.out 0).trans rfl; have hcz10_1 : w9.cell? ⟨gb1008, 1, none⟩ = some (.int .i64 a0_1) := (blk_cell BK1008.out 1).trans rfl; have hcz10_2 : w9.cell? ⟨gb1008, 2, none⟩ = some (.int .i64 a0_2) := (blk_cell BK1008.out 2).trans rfl; have hcz10_3 : w9.cell? ⟨gb1008, 3, none⟩ = some (.string a0_3) := (blk_cell BK1008.out 3).trans rfl; have hfz10_0 := blk_frozen BK1008.out 0; have hfz10_1 := blk_frozen BK1008.out 1; have hfz10_2 := blk_frozen BK1008.out 2; have hfz10_3 := blk_frozen BK1008.out 3) | ((with_reducible refine gate_callee (f := 96) rfl ?_); refine goesL_ (some 12) rfl rfl Tryz.func96 (by kernel_rfl) rfl #[.string a0_0] rfl aG ?_; (with_reducible refine (subst_Var.calls k a0_0 true _ A7.out).mono ?_); rintro e w' ⟨rfl, ⟨nd, rfl⟩⟩; refine ⟨_, rfl, ?_⟩))
   go_ret
   exact ⟨eW, (bB1 GE1008.out)⟩
  ·replace c8 := Bool.eq_false_iff.mpr c8
   subst c8
   have H1 : (some false) = some r := by rw [if_neg (show ¬ (false = true) by decide)] at H; exact H
   clear H
   have H := H1
   clear H1
   obtain rfl := Option.some.inj H
   go_enter Tryz.func89, Tryz.ntmps89
   go_wp2_with (first | ((with_reducible refine gate_dst (N := 1) rfl ?_); refine bE (N := 1) (cs := #[.string a0_0, .int .i64 a0_1, .int .i64 a0_2, .string a0_3]) (t := 92) ?_; intro gb1008 hg w11 hbox hb; have n0_ := Aside0.mk (below_step bB0 hb); have n1_ := Aside0.mk (hbox); have n2_ := Aside0.mk ((by rw [hg]; exact (below_size bB0) : w.heap.size ≤ gb1008)); have n3_ := Aside0.mk ((by rw [hg]; exact (below_size bB0) : w.heap.size ≤ gb1008)); clear HB; have HB := n0_; have BK1008 := n1_; have GW1008 := n2_; have GE1008 := n3_; clear n0_ n1_ n2_ n3_; clear hb hbox hg; have hcz12_0 : w11.cell? ⟨gb1008, 0, none⟩ = some (.string a0_0) := (blk_cell BK1008.out 0).trans rfl; have hcz12_1 : w11.cell? ⟨gb1008, 1, none⟩ = some (.int .i64 a0_1) := (blk_cell BK1008.out 1).trans rfl; have hcz12_2 : w11.cell? ⟨gb1008, 2, none⟩ = some (.int .i64 a0_2) := (blk_cell BK1008.out 2).trans rfl; have hcz12_3 : w11.cell? ⟨gb1008, 3, none⟩ = some (.string a0_3) := (blk_cell BK1008.out 3).trans rfl; have hfz12_0 := blk_frozen BK1008.out 0; have hfz12_1 := blk_frozen BK1008.out 1; have hfz12_2 := blk_frozen BK1008.out 2; have hfz12_3 := blk_frozen BK1008.out 3) | ((with_reducible refine gate_callee (f := 96) rfl ?_); refine goesL_ (some 12) rfl rfl Tryz.func96 (by kernel_rfl) rfl #[.string a0_0] rfl aG ?_; (with_reducible refine (subst_Var.calls k a0_0 false _ A7.out).mono ?_); rintro e w' ⟨rfl, ⟨nd, rfl⟩⟩; refine ⟨_, rfl, ?_⟩))
   go_ret
   exact ⟨eW, (bB1 GE1008.out)⟩
end Go.Proofs.YtghommaokdhjmaaGreat.P
/- match.Check: its walk and what it answers as a plain function; texts no longer than a million bytes. -/
namespace Go.Proofs.YtghommaokdhjmaaGreat.FactC
open Go.Shelf Go.RowKit Go.Lib Go.Proofs.YtghommaokdhjmaaGreatW.PrintWords Go.Proofs.YtghommaokdhjmaaGreatW.PrintLast Gate P PSpec Cont
def renT : Ren := ⟨fun x => if x = 6 then 110 else if x = 8 then 87 else x, fun x => if x = 0 then 0 else if x = 3 then 3 else if x = 4 then 4 else if x = 22 then 23 else if x = 23 then 92 else if x = 25 then 111 else x, fun x => x⟩
set_option maxRecDepth 1000000 in
theorem laysT : SlLaysH0.n8 Tryz.prog renT := by
 refine ⟨by kernel_rfl, ⟨ "slices.IndexFunc[[]constable/api.Term,constable/api.Term]", by decide, by kernel_rfl⟩, ⟨ "slices.ContainsFunc[[]constable/api.Term,constable/api.Term]", by decide, by kernel_rfl⟩, ?_, ?_, ?_, ?_, ?_, ?_, ?_, ?_, ?_, ?_, ?_, ?_, ?_, ?_, ?_, ?_, ?_, ?_, ?_, ?_⟩ <;> first | kernel_rfl | (intro w; kernel_rfl)
instance : Inhabited S92 := ⟨z92⟩
def termP (x : S92) : Bool := if x.f0.toList = ([] : List UInt8) then valP x.f1.f0 x.f1.f1 x.f1.f2 == 0 else (varP x.f0 && (x.f1.f0 == 0 && (x.f1.f1 == 0 && (x.f1.f2.toList == ([] : List UInt8)))))
def wrongT (x : S92) : Bool := !termP x
def fitT (l : List S92) : Bool := l.all fun x => decide (x.f0.size ≤ 1000000) && decide (x.f1.f2.size ≤ 1000000)
theorem fitT_mem {l : List S92} : fitT l = true ↔ ∀ x ∈ l, x.f0.size ≤ 1000000 ∧ x.f1.f2.size ≤ 1000000 := by
 unfold fitT
 rw [List.all_eq_true]
 simp only [Bool.and_eq_true, decide_eq_true_eq]
theorem term_eq (x : S92) (hx : x.f1.f2.size ≤ 1000000) : match_Term.f 1000100 x.f0 x.f1.f0 x.f1.f1 x.f1.f2 = some (termP x) := by
 unfold match_Term.f termP
 rw [valP_eq _ _ _ hx 1000100 (by omega), varP_eq _ 1000100 (by omega)]
 simp only [Option.bind_some]
 split
 ·rfl
 ·cases varP x.f0 <;> rfl
set_option maxHeartbeats 4000000 in
set_option maxRecDepth 1000000 in
theorem closT (x : S92) (hx : x.f1.f2.size ≤ 1000000) (W : World) : Calls Tryz.prog 88 #[.agg #[.string x.f0, .int .i64 x.f1.f0, .int .i64 x.f1.f1, .string x.f1.f2]] W fun e w' => e = .returned (.bool (wrongT x)) ∧ Go.RowKit.Below W.heap.size W w' := by
 have hu := Tryz.underlying92
 have hcon := fun W' => match_Term.calls 1000100 x.f0 x.f1.f0 x.f1.f1 x.f1.f2 _ W' (term_eq x hx)
 unfold wrongT
 generalize termP x = r at hcon ⊢
 have eg : ∀ args w, (callFunc 89 args).run Tryz.prog w = .ok (.enter 89 args) w := enters_of Tryz.func89 (by kernel_rfl) rfl
 go_enter Tryz.func88, Tryz.ntmps88
 go_wp2_with (go_at_fn 89; with_reducible refine (hcon _).mono ?_; rintro e w' ⟨rfl, hb⟩)
 go_ret
 exact ⟨rfl, below_step (by repeat (first | (with_reducible first | exact Go.RowKit.Below.refl _ _ | apply below_alloc | apply pw_below_drewN | apply below_drew1) | exact Go.RowKit.Below.refl _ _)) hb⟩
theorem ansT (l : List S92) (hf : fitT l = true) (w : World) : Answers Tryz.prog 88 #[] k92 l wrongT w := fun W x cs hW hx hl hK => by
 obtain rfl := k92_open hK
 exact (closT x (fitT_mem.1 hf x hx).2 W).mono fun e w' ⟨he, hb⟩ => ⟨he, hW.trans (hb.mono hW.size)⟩
theorem aggT : ∀ w, (isAgg 92).run Tryz.prog w = .ok true w := fun w => by kernel_rfl
theorem sizeT : ∀ w, (Go.sizeOf 92).run Tryz.prog w = .ok 4 w := fun w => by kernel_rfl
theorem containsT (A : Option Addr) (c : Nat) (l : List S92) (w : World) (hr : Kd.C k92 w A l.length l) (hf : fitT l = true) :
  Calls Tryz.prog 87 #[.slice A l.length c, .func (.func 88) #[] #[]] w fun e w' => e = .returned (.bool (l.any wrongT)) ∧ Go.RowKit.Below w.heap.size w w' :=
 contains laysT k92 4 rfl aggT sizeT wrongT 88 #[] (enters_of Tryz.func88 (by kernel_rfl) rfl) A l.length c l w rfl hr (ansT l hf w)
end Go.Proofs.YtghommaokdhjmaaGreat.FactC
namespace Go.Proofs.YtghommaokdhjmaaGreat.P
open Go.Shelf Go.RowKit Go.Lib Go.Proofs.YtghommaokdhjmaaGreatW.PrintWords Go.Proofs.YtghommaokdhjmaaGreatW.PrintLast Gate PSpec Cont FactC
def matP (s : ByteArray) (l : List S92) : Int := if nameP s = true ∧ l.length ≤ 5 ∧ l.any wrongT = false then 0 else 1
def match_Check.f (a0_0 : ByteArray) (l0_1 : List (S92)) : Option (Int) := if a0_0.size ≤ 1000000 ∧ fitT l0_1 = true then some (matP a0_0 l0_1) else none
set_option maxHeartbeats 4000000 in
set_option maxRecDepth 1000000 in
theorem match_Check.calls (a0_0 : ByteArray) (A0_1 : Option Addr) (c0_1 : Nat) (l0_1 : List (S92)) (r : Int) (w : World) (hr0_1 : Kd.C k92 w A0_1 l0_1.length l0_1) (hc0_1 : l0_1.length ≤ c0_1) (h : match_Check.f a0_0 l0_1 = some r) :
  Calls Tryz.prog 58 #[.agg #[.string a0_0, .slice A0_1 l0_1.length c0_1]] w fun e w' => e = .returned (.int .i64 r) ∧ Go.RowKit.Below w.heap.size w w' := by
 have hfit : a0_0.size ≤ 1000000 ∧ fitT l0_1 = true := by
  unfold match_Check.f at h
  by_cases hc : a0_0.size ≤ 1000000 ∧ fitT l0_1 = true
  ·exact hc
  ·rw [if_neg hc] at h; cases h
 obtain rfl : matP a0_0 l0_1 = r := by
  unfold match_Check.f at h
  rw [if_pos hfit] at h
  exact Option.some.inj h
 clear h
 have hu := Tryz.underlying25
 have hname := fun W => name_calls a0_0 hfit.1 W
 have HR := Aside0.mk hr0_1
 have HF := Aside0.mk hfit
 have hcon : ∀ W, Go.RowKit.Below w.heap.size w W → Calls Tryz.prog 87 #[.slice A0_1 l0_1.length c0_1, .func (.func 88) #[] #[]] W fun e w' => e = .returned (.bool (l0_1.any wrongT)) ∧ Go.RowKit.Below W.heap.size W w' := fun W hW => containsT A0_1 c0_1 l0_1 W (Kd.C_below HR.out hW) HF.out.2
 clear hr0_1 hc0_1 hfit
 unfold matP
 have HCo : Aside0 (∀ W, Go.RowKit.Below w.heap.size w W → Calls Tryz.prog 87 #[.slice A0_1 l0_1.length c0_1, .func (.func 88) #[] #[]] W fun e w' => e = .returned (.bool (l0_1.any wrongT)) ∧ Go.RowKit.Below W.heap.size W w') := Aside0.mk hcon
 clear hcon
 generalize l0_1.any wrongT = q at HCo ⊢
 generalize nameP a0_0 = m at hname ⊢
 generalize l0_1.length = n at HCo ⊢
 have eg : ∀ args w, (callFunc 86 args).run Tryz.prog w = .ok (.enter 86 args) w := enters_of Tryz.func86 (by kernel_rfl) rfl
 have eg2 : ∀ args w, (callFunc 87 args).run Tryz.prog w = .ok (.enter 87 args) w := enters_of Tryz.func87 (by kernel_rfl) rfl
 have hB0 : Aside0 (Go.RowKit.Below w.heap.size w (w.alloc (.cells #[.string a0_0, .slice A0_1 n c0_1] 25))) := Aside0.mk ((Go.RowKit.Below.refl _ w).alloc (Nat.le_refl _) _)
 cases m with
 | false =>
  rw [if_neg (by simp)]
  go_enter Tryz.func58, Tryz.ntmps58
  go_wp2_with (go_at_fn 86; with_reducible refine (hname _).mono ?_; rintro e w1 ⟨rfl, hb⟩)
  go_ret
  exact ⟨rfl, hB0.out.trans (hb.mono (by simp))⟩
 | true =>
  by_cases h5 : n ≤ 5
  ·have h5b : ¬ (5 < (n : Int)) := by omega
   cases q with
   | false =>
    rw [if_pos ⟨rfl, h5, rfl⟩]
    go_enter Tryz.func58, Tryz.ntmps58
    go_wp2_with (first | (go_at_fn 86; with_reducible refine (hname _).mono ?_; rintro e w1 ⟨rfl, hb⟩; have hc1 := (hb.cell (p := ⟨w.heap.size, 1, none⟩) (by simp)).trans (show (w.alloc (.cells #[.string a0_0, .slice A0_1 n c0_1] 25)).cell? ⟨w.heap.size, 1, none⟩ = some (.slice A0_1 n c0_1) by simp)) | (go_at_fn 87; with_reducible refine (HCo.out _ (hB0.out.trans (hb.mono (by simp)))).mono ?_; rintro e w2 ⟨rfl, hb2⟩))
    go_ret
    exact ⟨rfl, (hB0.out.trans (hb.mono (by simp))).trans (hb2.mono (hB0.out.trans (hb.mono (by simp))).size)⟩
   | true =>
    rw [if_neg (by simp)]
    go_enter Tryz.func58, Tryz.ntmps58
    go_wp2_with (first | (go_at_fn 86; with_reducible refine (hname _).mono ?_; rintro e w1 ⟨rfl, hb⟩; have hc1 := (hb.cell (p := ⟨w.heap.size, 1, none⟩) (by simp)).trans (show (w.alloc (.cells #[.string a0_0, .slice A0_1 n c0_1] 25)).cell? ⟨w.heap.size, 1, none⟩ = some (.slice A0_1 n c0_1) by simp)) | (go_at_fn 87; with_reducible refine (HCo.out _ (hB0.out.trans (hb.mono (by simp)))).mono ?_; rintro e w2 ⟨rfl, hb2⟩))
    go_ret
    exact ⟨rfl, (hB0.out.trans (hb.mono (by simp))).trans (hb2.mono (hB0.out.trans (hb.mono (by simp))).size)⟩
  ·have h5b : 5 < (n : Int) := by omega
   rw [if_neg (fun h => h5 h.2.1)]
   go_enter Tryz.func58, Tryz.ntmps58
   go_wp2_with (go_at_fn 86; with_reducible refine (hname _).mono ?_; rintro e w1 ⟨rfl, hb⟩; have hc1 := (hb.cell (p := ⟨w.heap.size, 1, none⟩) (by simp)).trans (show (w.alloc (.cells #[.string a0_0, .slice A0_1 n c0_1] 25)).cell? ⟨w.heap.size, 1, none⟩ = some (.slice A0_1 n c0_1) by simp))
   go_ret
   exact ⟨rfl, hB0.out.trans (hb.mono (by simp))⟩
end Go.Proofs.YtghommaokdhjmaaGreat.P
/- slices.Clone at []Bind: a row of the call's own with the same elements; no condition but the bound on a row's bytes. -/
namespace Go.Proofs.YtghommaokdhjmaaGreat.P
open Go.RowKit Go.Proofs.YtghommaokdhjmaaGreatW.PrintWords Go.Proofs.YtghommaokdhjmaaGreatW.PrintLast Gate
theorem built_nil {α : Type} (d : Kd α) (e : Nat) (w : World) : Kd.R d e (w.alloc (.cells #[] e)) w.heap.size (fun _ => True) (.slice (some ⟨w.heap.size, 0, none⟩) 0 0) [] :=
 ⟨fun _ _ => trivial, [], ⟨by simp, .inr ⟨w.heap.size, 0, #[], rfl, Nat.le_refl _, heap_alloc_new _ _, Nat.le_refl _, Nat.zero_le _, by simp, by simp⟩⟩, Reps.none _ _⟩
def api_Bind_84.f (l0 : List (S66)) : Option ((List (S66))) := if ([] : List (S66)).length + l0.length < 2932031007402 then (some (([] : List (S66)) ++ l0)) else (none)
set_option maxHeartbeats 8000000 in
set_option maxRecDepth 100000 in
theorem api_Bind_84.calls (A0 : Option Addr) (c0 : Nat) (l0 : List (S66)) (r : List (S66)) (w : World) (hr0 : Kd.C k66 w A0 l0.length l0) (hc0 : l0.length ≤ c0) (h : api_Bind_84.f l0 = some r) :
  Calls Tryz.prog 60 #[.slice A0 l0.length c0] w fun e w' => ∃ v0_ : Value, e = .returned (v0_) ∧ Kd.R k66 66 w' w.heap.size (fun _ => True) v0_ r ∧ Below w.heap.size w w' := by
 have HR0 := Aside0.mk hr0
 have HC0 := Aside0.mk hc0
 have HB := Aside0.mk (Below.refl w.heap.size w)
 have H : (if ([] : List (S66)).length + l0.length < 2932031007402 then (some (([] : List (S66)) ++ l0)) else (none)) = some r := h
 clear h
 by_cases c2 : ([] : List (S66)).length + l0.length < 2932031007402
 ·rw [if_pos c2] at H
  have LMc2 := Aside0.mk c2
  clear c2
  obtain ⟨y103, hy103⟩ : ∃ y_ : List (S66), y_ = (([] : List (S66)) ++ l0) := ⟨_, rfl⟩
  replace H : (some y103) = some r := by rw [hy103]; exact H
  have Ny103 := Aside0.mk hy103
  obtain rfl := Option.some.inj H
  by_cases hA : A0 = none
  ·subst hA
   obtain rfl : l0 = [] := by
    rcases l0 with _ | ⟨x, l⟩
    ·rfl
    ·obtain ⟨_, h, _⟩ := hr0.2.2 (by simp); cases h
   have e0 : y103 = [] := Ny103.out
   clear hr0 hc0 hy103
   subst e0
   have hq : ∀ W, Sem.run Tryz.prog (binOp .eql 29 (.slice none 0 c0) (.slice none 0 0)) W = .ok (.bool true) W := fun W => Lib.run_eql_slice_nil W 29 66 none _ c0 0 0 Tryz.underlying29
   go_enter Tryz.func60, Tryz.ntmps60
   go_wp2_with fail
   go_ret
   exact ⟨_, rfl, Kd.R_nil _ _ _ _ (fun _ => True), HB.out⟩
  ·have hN : A0.isNone = false := by cases A0 with
    | none => exact absurd rfl hA
    | some _ => rfl
   clear hA
   clear hr0 hc0 hy103
   have hq : ∀ W, Sem.run Tryz.prog (binOp .eql 29 (.slice A0 l0.length c0) (.slice none 0 0)) W = .ok (.bool false) W := fun W => by rw [Lib.run_eql_slice_nil W 29 66 A0 _ c0 0 0 Tryz.underlying29, hN]
   clear hN
   go_enter Tryz.func60, Tryz.ntmps60
   go_wp2_with (first | ((with_reducible refine gate_builtin (b := .append) (xs := #[.tmp 5, .tmp 6]) rfl ?_); at_builtin; refine Kd.R_append_rows k66 (w0 := w) w.heap.size rfl (.tmp 5) (.tmp 6) 29 66 (.agg #[(.string ⟨#[]⟩), (.int .i64 0), (.int .i64 0), (.string ⟨#[]⟩)]) 48 rfl Tryz.underlying29 info66 rfl (by decide) (by omega) (.slice (some ⟨w.heap.size, 0, none⟩) 0 0) ([] : List (S66)) l0 _ _ _ (fun _ => True) (fun _ => False) rfl rfl ?aO ?aR (fun _ _ h => h) (fun _ h => h.elim) ?aF ?aB ?aS ?aL ?_; (case aR => exact Kd.C_alloc HR0.out _); (case aB => exact (by repeat (first | (with_reducible first | exact HB.out | apply below_alloc | apply pw_below_drewN | apply below_drew1) | exact HB.out))); (case aF => exact (fun _ _ => trivial)); (case aO => exact built_nil k66 66 w); (case aS => exact (below_size (by repeat (first | (with_reducible first | exact HB.out | apply below_alloc | apply pw_below_drewN | apply below_drew1) | exact HB.out)))); (case aL => have := LMc2.out; omega); intro v104 w3 ho hb hg hat; rw [← Ny103.out] at ho; have n0_ := Aside0.mk (hb); have n1_ := Aside0.mk (ho); clear HB; have HB := n0_; have HO105 := n1_; clear n0_ n1_; clear ho hb hg hat))
   go_ret
   exact ⟨_, by first | rfl | (simp [errW_none, errW_some] <;> rfl) | (simp [*, errW_none, errW_some] <;> rfl), by (with_reducible repeat (first | apply Kd.R_alloc | apply Kd.R_drewN | apply Kd.R_drew)); exact HO105.out, by repeat (first | (with_reducible first | exact HB.out | apply below_alloc | apply pw_below_drewN | apply below_drew1) | exact HB.out)⟩
 ·rw [if_neg c2] at H
  exact absurd H (by simp)
end Go.Proofs.YtghommaokdhjmaaGreat.P
/- match.One: its walk and what it answers as a plain function; texts no longer than a million bytes. -/
namespace Go.Proofs.YtghommaokdhjmaaGreat.SpecM
open Go.Shelf Go.RowKit Go.Lib Go.Sort Go.Proofs.YtghommaokdhjmaaGreatW.PrintWords Go.Proofs.YtghommaokdhjmaaGreatW.PrintLast Gate P Str PSpec BothB FactC
open Go.Proofs.YtghommaokdhjmaaGreat.SpecB hiding tl_iff
theorem rdT_get {l : List S92} {i : Nat} (hi : i < l.length) : rd_T92 l i = l[i] := by
 unfold rd_T92
 rw [Int.toNat_natCast, List.getD_eq_getElem?_getD, List.getElem?_eq_getElem hi]; rfl
theorem rdV_get {l : List S64} {i : Nat} (hi : i < l.length) : rd_T64 l i = l[i] := by
 unfold rd_T64
 rw [Int.toNat_natCast, List.getD_eq_getElem?_getD, List.getElem?_eq_getElem hi]; rfl
theorem factP_len {s : ByteArray} {l : List S64} (h : factP s l = 0) : l.length ≤ 5 := by
 unfold factP at h
 by_cases hc : nameP s = true ∧ l.length ≤ 5 ∧ l.any wrongV = false
 ·exact hc.2.1
 ·rw [if_neg hc] at h; cases h
theorem put_calls {l : List S66} (fl : fitB l = true) (hl : l.length ≤ 19) (n : ByteArray) (v : S64) (h1 : n.size ≤ 1000000) (h2 : v.f2.size ≤ 1000000) (A : Option Addr) (c : Nat) (W : World) (hr : Kd.C k66 W A l.length l) (hc : l.length ≤ c) :
  Calls Tryz.prog 61 #[.slice A l.length c, .string n, .agg #[.int .i64 v.f0, .int .i64 v.f1, .string v.f2]] W fun e w' => ∃ x : Value, e = .returned (.tuple #[x, .bool (putP l ⟨n, v⟩).2]) ∧ Kd.R k66 66 w' W.heap.size (fun _ => True) x (putP l ⟨n, v⟩).1 ∧ Go.RowKit.Below W.heap.size W w' := by
 obtain ⟨k, hk⟩ := (ev_put fl hl n v.f0 v.f1 v.f2 h1 h2).rounds
 exact subst_Put.calls k A c l n v.f0 v.f1 v.f2 _ _ W hr hc hk
def Two (w : World) (x0 x1 y0 y1 : Value) (W : World) : Prop :=
 Go.RowKit.Below w.heap.size w W ∧ w.heap.size + 2 ≤ W.heap.size ∧ W.cell? ⟨w.heap.size, 0, none⟩ = some x0 ∧ W.cell? ⟨w.heap.size, 1, none⟩ = some x1 ∧ W.cell? ⟨w.heap.size + 1, 0, none⟩ = some y0 ∧ W.cell? ⟨w.heap.size + 1, 1, none⟩ = some y1
theorem Two.below {w : World} {x0 x1 y0 y1 : Value} {W : World} (h : Two w x0 x1 y0 y1 W) : Go.RowKit.Below w.heap.size w W := h.1
theorem Two.start (w : World) (x0 x1 y0 y1 : Value) (s t : TypeId) : Two w x0 x1 y0 y1 ((w.alloc (.cells #[x0, x1] s)).alloc (.cells #[y0, y1] t)) :=
 ⟨((Go.RowKit.Below.refl _ w).alloc (Nat.le_refl _) _).alloc (by simp) _, by simp, by simp, by simp, by simp, by simp⟩
theorem Two.step {w : World} {x0 x1 y0 y1 : Value} {W W' : World} (h : Two w x0 x1 y0 y1 W) (hb : Go.RowKit.Below W.heap.size W W') : Two w x0 x1 y0 y1 W' := by
 obtain ⟨h1, h2, h3, h4, h5, h6⟩ := h
 have hs := hb.size
 exact ⟨h1.trans (hb.mono h1.size), by omega, (hb.cell (p := ⟨w.heap.size, 0, none⟩) (by show w.heap.size + 0 < _ ; omega)).trans h3, (hb.cell (p := ⟨w.heap.size, 1, none⟩) (by show w.heap.size + 0 < _ ; omega)).trans h4, (hb.cell (p := ⟨w.heap.size + 1, 0, none⟩) (by show w.heap.size + 1 < _ ; omega)).trans h5, (hb.cell (p := ⟨w.heap.size + 1, 1, none⟩) (by show w.heap.size + 1 < _ ; omega)).trans h6⟩
def con (t : S92) : Prop := t.f0.toList = ([] : List UInt8)
instance (t : S92) : Decidable (con t) := inferInstanceAs (Decidable (t.f0.toList = []))
def bnd (t : S92) (v : S64) : S66 := ⟨t.f0, v⟩
def neV (x y : S64) : Bool := !(x.f0 == y.f0 && (x.f1 == y.f1 && (x.f2.toList == y.f2.toList)))
theorem ne24 (x y : S64) (W : World) : Sem.run Tryz.prog (binOp .neq 64 (.agg #[.int .i64 x.f0, .int .i64 x.f1, .string x.f2]) (.agg #[.int .i64 y.f0, .int .i64 y.f1, .string y.f2])) W = .ok (.bool (neV x y)) W := by
 have h := eqA64 (Op.maxDepth - 2) W x.f0 y.f0 x.f1 y.f1 x.f2 y.f2
 change Sem.run Tryz.prog (Op.equal 64 (.agg #[.int .i64 x.f0, .int .i64 x.f1, .string x.f2]) (.agg #[.int .i64 y.f0, .int .i64 y.f1, .string y.f2])) W = _ at h
 simp [binOp, h, neV]
theorem box4 (W : World) (a b c d : Value) (t : TypeId) : (W.alloc (.cells #[a, b, c, d] t)).cell? ⟨W.heap.size, 0, none⟩ = some a ∧ (W.alloc (.cells #[a, b, c, d] t)).cell? ⟨W.heap.size, 1, none⟩ = some b ∧ (W.alloc (.cells #[a, b, c, d] t)).cell? ⟨W.heap.size, 2, none⟩ = some c ∧ (W.alloc (.cells #[a, b, c, d] t)).cell? ⟨W.heap.size, 3, none⟩ = some d := by
 refine ⟨?_, ?_, ?_, ?_⟩ <;> simp
theorem put_fit {l : List S66} {x : S66} (fl : fitB l = true) (h1 : x.f0.size ≤ 1000000) (h2 : x.f1.f2.size ≤ 1000000) : fitB (putP l x).1 = true := by
 rcases put_cases l x with ⟨m, e, h⟩ | ⟨e, _⟩
 ·rw [e]; exact with_fit h fl h1 h2
 ·rw [e]; rfl
def oneL : List S66 → List S92 → List S64 → List S66 × Bool
 | l, [], _ => (l, true)
 | _, _ :: _, [] => ([], false)
 | l, t :: ts, v :: vs => if con t then (if neV t.f1 v = true then ([], false) else oneL l ts vs) else if (putP l (bnd t v)).2 = true then oneL (putP l (bnd t v)).1 ts vs else ([], false)
def oneP (a : ByteArray) (ts : List S92) (b : ByteArray) (vs : List S64) (l : List S66) : List S66 × Bool :=
 if matP a ts = 0 ∧ factP b vs = 0 ∧ chkP l = 0 ∧ a = b ∧ ts.length = vs.length then oneL l ts vs else ([], false)
end Go.Proofs.YtghommaokdhjmaaGreat.SpecM
namespace Go.Proofs.YtghommaokdhjmaaGreat.P
open Go.Shelf Go.RowKit Go.Lib Go.Sort Go.Proofs.YtghommaokdhjmaaGreatW.PrintWords Go.Proofs.YtghommaokdhjmaaGreatW.PrintLast Gate Str PSpec BothB FactC SpecM
open Go.Proofs.YtghommaokdhjmaaGreat.SpecB hiding tl_iff
def match_One.f (a0_0 : ByteArray) (l0_1 : List (S92)) (a1_0 : ByteArray) (l1_1 : List (S64)) (l2 : List (S66)) : Option ((List (S66)) × Bool) := if (a0_0.size ≤ 1000000 ∧ fitT l0_1 = true) ∧ (a1_0.size ≤ 1000000 ∧ fitV l1_1 = true) ∧ fitB l2 = true ∧ l2.length ≤ 5 then some (oneP a0_0 l0_1 a1_0 l1_1 l2) else none
set_option maxHeartbeats 4000000 in
set_option maxRecDepth 1000000 in
theorem match_One.calls (a0_0 : ByteArray) (A0_1 : Option Addr) (c0_1 : Nat) (l0_1 : List (S92)) (a1_0 : ByteArray) (A1_1 : Option Addr) (c1_1 : Nat) (l1_1 : List (S64)) (A2 : Option Addr) (c2 : Nat) (l2 : List (S66)) (r1 : List (S66)) (r2 : Bool) (w : World) (hr0_1 : Kd.C k92 w A0_1 l0_1.length l0_1) (hc0_1 : l0_1.length ≤ c0_1) (hr1_1 : Kd.C k64 w A1_1 l1_1.length l1_1) (hc1_1 : l1_1.length ≤ c1_1) (hr2 : Kd.C k66 w A2 l2.length l2) (hc2 : l2.length ≤ c2) (h : match_One.f a0_0 l0_1 a1_0 l1_1 l2 = some (r1, r2)) :
  Calls Tryz.prog 28 #[.agg #[.string a0_0, .slice A0_1 l0_1.length c0_1], .agg #[.string a1_0, .slice A1_1 l1_1.length c1_1], .slice A2 l2.length c2] w fun e w' => ∃ v0_ : Value, e = .returned (.tuple #[v0_, .bool r2]) ∧ Kd.R k66 66 w' w.heap.size (fun _ => True) v0_ r1 ∧ Go.RowKit.Below w.heap.size w w' := by
 have hfit : (a0_0.size ≤ 1000000 ∧ fitT l0_1 = true) ∧ (a1_0.size ≤ 1000000 ∧ fitV l1_1 = true) ∧ fitB l2 = true ∧ l2.length ≤ 5 := by
  unfold match_One.f at h
  by_cases hc : (a0_0.size ≤ 1000000 ∧ fitT l0_1 = true) ∧ (a1_0.size ≤ 1000000 ∧ fitV l1_1 = true) ∧ fitB l2 = true ∧ l2.length ≤ 5
  ·exact hc
  ·rw [if_neg hc] at h; cases h
 have hres : oneP a0_0 l0_1 a1_0 l1_1 l2 = (r1, r2) := by
  unfold match_One.f at h
  rw [if_pos hfit] at h
  exact Option.some.inj h
 clear h
 have hu69 := Tryz.underlying25
 have hu53 := Tryz.underlying58
 have hu77 := Tryz.underlying92
 have hu24 := Tryz.underlying64
 have HRes := Aside0.mk hres
 have HFit := Aside0.mk hfit
 have HR0 := Aside0.mk hr0_1
 have HR1 := Aside0.mk hr1_1
 have HR2 := Aside0.mk hr2
 have HC0 := Aside0.mk hc0_1
 have HC1 := Aside0.mk hc1_1
 have HC2 := Aside0.mk hc2
 have G82 : Aside0 (∀ W, Go.RowKit.Below w.heap.size w W → Calls Tryz.prog 58 #[.agg #[.string a0_0, .slice A0_1 l0_1.length c0_1]] W fun e w' => e = .returned (.int .i64 (matP a0_0 l0_1)) ∧ Go.RowKit.Below W.heap.size W w') := ⟨fun W hW => match_Check.calls a0_0 A0_1 c0_1 l0_1 _ W (Kd.C_below HR0.out hW) HC0.out (if_pos HFit.out.1)⟩
 have G83 : Aside0 (∀ W, Go.RowKit.Below w.heap.size w W → Calls Tryz.prog 59 #[.agg #[.string a1_0, .slice A1_1 l1_1.length c1_1]] W fun e w' => e = .returned (.int .i64 (factP a1_0 l1_1)) ∧ Go.RowKit.Below W.heap.size W w') := ⟨fun W hW => fact_Check.calls a1_0 A1_1 c1_1 l1_1 _ W (Kd.C_below HR1.out hW) HC1.out (if_pos HFit.out.2.1)⟩
 have G25 : Aside0 (∀ W, Go.RowKit.Below w.heap.size w W → Calls Tryz.prog 34 #[.slice A2 l2.length c2] W fun e w' => e = .returned (.int .i64 (chkP l2)) ∧ Go.RowKit.Below W.heap.size W w') := ⟨fun W hW => chk_calls A2 c2 l2 W (Kd.C_below HR2.out hW) HC2.out HFit.out.2.2.1⟩
 clear hfit hres hr0_1 hr1_1 hr2 hc0_1 hc1_1 hc2
 have T0 : Aside0 (Two w (.string a0_0) (.slice A0_1 l0_1.length c0_1) (.string a1_0) (.slice A1_1 l1_1.length c1_1) ((w.alloc (.cells #[.string a0_0, .slice A0_1 l0_1.length c0_1] 25)).alloc (.cells #[.string a1_0, .slice A1_1 l1_1.length c1_1] 58))) := Aside0.mk (Two.start w _ _ _ _ _ _)
 by_cases hm : matP a0_0 l0_1 = 0
 ·by_cases hf : factP a1_0 l1_1 = 0
  ·by_cases hk : chkP l2 = 0
   ·by_cases hn : a0_0 = a1_0
    ·by_cases hl : l0_1.length = l1_1.length
     ·have hcl := HRes.out
      unfold oneP at hcl
      rw [if_pos ⟨hm, hf, hk, hn, hl⟩] at hcl
      have HA0 : Aside0 (oneL l2 (l0_1.drop 0) (l1_1.drop 0) = (r1, r2)) := Aside0.mk (by rw [List.drop_zero, List.drop_zero]; exact hcl)
      have hlen5 := (factP_len hf)
      have HL5 : Aside0 (l1_1.length ≤ 5) := Aside0.mk hlen5
      have HLe : Aside0 (l0_1.length = l1_1.length) := Aside0.mk hl
      have G84 : Aside0 (∀ W, Go.RowKit.Below w.heap.size w W → Calls Tryz.prog 60 #[.slice A2 l2.length c2] W fun e w' => ∃ v : Value, e = .returned v ∧ Kd.R k66 66 w' W.heap.size (fun _ => True) v l2 ∧ Go.RowKit.Below W.heap.size W w') := ⟨fun W hW => api_Bind_84.calls A2 c2 l2 l2 W (Kd.C_below HR2.out hW) HC2.out (by unfold api_Bind_84.f; rw [if_pos (by have := right_len hk; simp; omega), List.nil_append])⟩
      rw [hm] at G82
      rw [hf] at G83
      rw [hk] at G25
      have hn0 : (a0_0.toList == a1_0.toList) = true := by rw [hn]; exact beq_self_eq_true _
      have hn1 : (a0_0.toList != a1_0.toList) = false := by rw [hn]; exact bne_self_eq_false _
      have hl0 : ((l0_1.length : Int) == (l1_1.length : Int)) = true := by rw [hl]; exact beq_self_eq_true _
      have hl1 : ((l0_1.length : Int) != (l1_1.length : Int)) = false := by rw [hl]; exact bne_self_eq_false _
      have HFa0 : Aside0 (fitB l2 = true ∧ l2.length ≤ 5 + 0) := Aside0.mk HFit.out.2.2
      clear hn hl hm hf hk hcl HRes hlen5
      go_enter Tryz.func28, Tryz.ntmps28
      go_wp2_with (first | (go_at_call 58; (with_reducible refine (G82.out _ T0.out.below).mono ?_); rintro e w1 ⟨rfl, hb1⟩; have T1 := Aside0.mk (T0.out.step hb1); obtain ⟨_, _, k10, k11, k12, k13⟩ := T1.out; clear hb1) | (go_at_call 59; (with_reducible refine (G83.out _ T1.out.below).mono ?_); rintro e w2 ⟨rfl, hb2⟩; have T2 := Aside0.mk (T1.out.step hb2); obtain ⟨_, _, k20, k21, k22, k23⟩ := T2.out; clear hb2 k10 k11 k12 k13) | (go_at_call 34; (with_reducible refine (G25.out _ T2.out.below).mono ?_); rintro e w3 ⟨rfl, hb3⟩; have T3 := Aside0.mk (T2.out.step hb3); obtain ⟨_, _, k30, k31, k32, k33⟩ := T3.out; clear hb3 k20 k21 k22 k23) | (go_at_call 60; (with_reducible refine (G84.out _ T3.out.below).mono ?_); rintro e w4 ⟨v4, rfl, hR4, hb4⟩; have T4 := Aside0.mk (T3.out.step hb4); have R4 := Aside0.mk (Kd.R_lower hR4 T3.out.below.size); obtain ⟨_, _, k40, k41, k42, k43⟩ := T4.out; clear hb4 hR4 k30 k31 k32 k33))
      clear G82 G83 G25 G84 hn0 hn1 hl0 hl1 T0 T1 T2 T3
      go_loopg [8, 47] l0_1.length (fun gg s8 s47 wr => ∃ (i : Nat) (acc : List S66), s47 = .int .i64 i ∧ i ≤ l0_1.length ∧ l0_1.length - i ≤ gg ∧ Aside0 (oneL acc (l0_1.drop i) (l1_1.drop i) = (r1, r2)) ∧ Aside0 (Kd.R k66 66 wr w.heap.size (fun _ => True) s8 acc) ∧ Aside0 (fitB acc = true ∧ acc.length ≤ 5 + i) ∧ Aside0 (Two w (.string a0_0) (.slice A0_1 l0_1.length c0_1) (.string a1_0) (.slice A1_1 l1_1.length c1_1) wr))
      case atStart => exact ⟨0, l2, rfl, Nat.zero_le _, by omega, HA0, R4, HFa0, T4⟩
      case round =>
       clear k40 k41 k42 k43 T4 R4 HA0 HFa0
       obtain ⟨i, acc, rfl, hi, hg, HA, HRa, HFa, T⟩ := hrel
       by_cases hlt : i < l0_1.length
       ·have HLt := Aside0.mk hlt
        have hltz : (i : Int) < (l0_1.length : Int) := by omega
        have hltv : (i : Int) < (l1_1.length : Int) := by have := HLe.out; omega
        obtain ⟨ad, eA, x0, x1, x2, x3⟩ := at_T92 (Kd.C_below HR0.out T.out.below) (i : Int) (by omega) hltz
        obtain ⟨ad2, eB, y0, y1, y2⟩ := at_T64 (Kd.C_below HR1.out T.out.below) (i : Int) (by omega) hltv
        have hd0 : l0_1.drop i = rd_T92 l0_1 i :: l0_1.drop (i + 1) := by rw [rdT_get hlt]; exact List.drop_eq_getElem_cons hlt
        have hd1 : l1_1.drop i = rd_T64 l1_1 i :: l1_1.drop (i + 1) := by rw [rdV_get (by omega)]; exact List.drop_eq_getElem_cons (by omega)
        rw [hd0, hd1] at HA
        have HSz : Aside0 ((rd_T92 l0_1 i).f0.size ≤ 1000000 ∧ (rd_T64 l1_1 i).f2.size ≤ 1000000) := Aside0.mk ⟨by rw [rdT_get hlt]; exact (fitT_mem.1 HFit.out.1.2 _ (List.getElem_mem _)).1, by rw [rdV_get (by omega)]; exact fitV_mem.1 HFit.out.2.1.2 _ (List.getElem_mem _)⟩
        simp only [Int.toNat_natCast] at x0 x1 x2 x3 y0 y1 y2
        generalize rd_T92 l0_1 (i : Int) = t at HA HSz x0 x1 x2 x3
        generalize rd_T64 l1_1 (i : Int) = v at HA HSz y0 y1 y2
        clear hd0 hd1
        cases eA
        cases eB
        by_cases hc : t.f0.toList = ([] : List UInt8)
        ·have hc0 : (t.f0.toList == ([] : List UInt8)) = true := by rw [hc]; rfl
         obtain ⟨hB, hz, k0, k1, k2, k3⟩ := T.out
         go_wp2
         have hb2 : Go.RowKit.Below wr.heap.size wr (wr.alloc (.cells #[.string t.f0, .int .i64 t.f1.f0, .int .i64 t.f1.f1, .string t.f1.f2] 92)) := (Go.RowKit.Below.refl _ wr).alloc (Nat.le_refl _) _
         obtain ⟨m0, m1, m2, m3⟩ := box4 wr (.string t.f0) (.int .i64 t.f1.f0) (.int .i64 t.f1.f1) (.string t.f1.f2) 92
         have T5 := Aside0.mk (T.out.step hb2)
         have R5 := Aside0.mk (Kd.R_below HRa.out hb2)
         replace y0 := mvc hb2 y0
         replace y1 := mvc hb2 y1
         replace y2 := mvc hb2 y2
         clear hb2 x0 x1 x2 x3 k0 k1 k2 k3 hB hz T HRa
         generalize wr.heap.size = gb at m0 m1 m2 m3 ⊢
         generalize wr.alloc (.cells #[.string t.f0, .int .i64 t.f1.f0, .int .i64 t.f1.f1, .string t.f1.f2] 92) = wq at y0 y1 y2 m0 m1 m2 m3 T5 R5 ⊢
         obtain ⟨_, hz, k0, k1, k2, k3⟩ := T5.out
         have hne := ne24 t.f1 v
         by_cases hv : neV t.f1 v = true
         ·rw [hv] at hne
          obtain ⟨rfl, rfl⟩ : r1 = [] ∧ r2 = false := by
           have := HA.out
           rw [oneL, if_pos (show con t from hc), if_pos hv] at this
           injection this with e1 e2
           exact ⟨e1.symm, e2.symm⟩
          clear HA hv
          go_quiet (fail)
          go_wp2
          go_ret2
          exact ⟨_, rfl, Kd.R_nil _ _ _ _ _, pw_below_drewN T5.out.below _⟩
         ·have hv' : neV t.f1 v = false := Bool.eq_false_iff.2 hv
          rw [hv'] at hne
          have HA2 : Aside0 (oneL acc (l0_1.drop (i + 1)) (l1_1.drop (i + 1)) = (r1, r2)) := by
           have := HA.out
           rw [oneL, if_pos (show con t from hc), if_neg hv] at this
           exact Aside0.mk this
          clear HA hv hv'
          go_quiet (fail)
          go_wp2
          go_roundg (l0_1.length - (i + 1))
          case measure => have h1_ := HLt.out; have h2_ := hg; omega
          case rel => exact ⟨i + 1, acc, by rw [w64 (show l0_1.length ≤ 1000000 by have h1_ := HL5.out; have h2_ := HLe.out; omega) HLt.out], HLt.out, by have := HLt.out; omega, HA2, Aside0.mk (Kd.R_below R5.out (pw_below_drewN (Go.RowKit.Below.refl _ _) _)), ⟨HFa.out.1, by have h1_ := HFa.out.2; omega⟩, Aside0.mk (T5.out.step (pw_below_drewN (Go.RowKit.Below.refl _ _) _))⟩
        ·have hc0 : (t.f0.toList == ([] : List UInt8)) = false := beq_eq_false_iff_ne.2 hc
         obtain ⟨hB, hz, k0, k1, k2, k3⟩ := T.out
         go_wp2
         have hb2 : Go.RowKit.Below wr.heap.size wr (wr.alloc (.cells #[.string t.f0, .int .i64 t.f1.f0, .int .i64 t.f1.f1, .string t.f1.f2] 92)) := (Go.RowKit.Below.refl _ wr).alloc (Nat.le_refl _) _
         obtain ⟨m0, m1, m2, m3⟩ := box4 wr (.string t.f0) (.int .i64 t.f1.f0) (.int .i64 t.f1.f1) (.string t.f1.f2) 92
         have T5 := Aside0.mk (T.out.step hb2)
         have R5 := Aside0.mk (Kd.R_below HRa.out hb2)
         replace y0 := mvc hb2 y0
         replace y1 := mvc hb2 y1
         replace y2 := mvc hb2 y2
         clear hb2 x0 x1 x2 x3 k0 k1 k2 k3 hB hz T HRa
         generalize wr.heap.size = gb at m0 m1 m2 m3 ⊢
         generalize wr.alloc (.cells #[.string t.f0, .int .i64 t.f1.f0, .int .i64 t.f1.f1, .string t.f1.f2] 92) = wq at y0 y1 y2 m0 m1 m2 m3 T5 R5 ⊢
         obtain ⟨_, hz, k0, k1, k2, k3⟩ := T5.out
         obtain ⟨A8, c8, rfl, hle8, hC8⟩ := Kd.R_reads R5.out
         have hput := fun W (hW : Go.RowKit.Below wq.heap.size wq W) => put_calls HFa.out.1 (by have h1_ := HFa.out.2; have h2_ := HLt.out; have h3_ := HL5.out; have h4_ := HLe.out; omega) t.f0 v HSz.out.1 HSz.out.2 A8 c8 W (Kd.C_below hC8 hW) hle8
         have HPut := Aside0.mk hput
         clear hput hC8
         by_cases hp : (putP acc ⟨t.f0, v⟩).2 = true
         ·have HA2 : Aside0 (oneL (putP acc ⟨t.f0, v⟩).1 (l0_1.drop (i + 1)) (l1_1.drop (i + 1)) = (r1, r2)) := by
           have := HA.out
           rw [oneL, if_neg (show ¬ con t from hc), if_pos (show (putP acc (bnd t v)).2 = true from hp)] at this
           exact Aside0.mk this
          have HF2 : Aside0 (fitB (putP acc ⟨t.f0, v⟩).1 = true ∧ (putP acc ⟨t.f0, v⟩).1.length ≤ 5 + (i + 1)) := Aside0.mk ⟨put_fit HFa.out.1 HSz.out.1 HSz.out.2, by have h1_ := put_len acc ⟨t.f0, v⟩; have h2_ := HFa.out.2; omega⟩
          rw [hp] at HPut
          generalize (putP acc ⟨t.f0, v⟩).1 = acc2 at HPut HA2 HF2
          clear HA hp hc HFa
          have hd1 : Go.RowKit.Below wq.heap.size wq wq.drew := below_drew1 (Go.RowKit.Below.refl _ _)
          go_region_held3 (fun w' => w'.cell? ⟨gb, 0, none⟩ = some (.string t.f0) ∧ w'.cell? ⟨w.heap.size + 1, 1, none⟩ = some (.slice (some ad2) l1_1.length c1_1) ∧ w'.cell? (ad2.add (i * 3)) = some (.int .i64 v.f0) ∧ w'.cell? ⟨(ad2.add (i * 3)).block, (ad2.add (i * 3)).off + 1, none⟩ = some (.int .i64 v.f1) ∧ w'.cell? ⟨(ad2.add (i * 3)).block, (ad2.add (i * 3)).off + 2, none⟩ = some (.string v.f2))
           (first | go_keep | (refine ⟨?_, ?_, ?_, ?_, ?_⟩ <;> assumption))
           (first | (go_at_call 61; (with_reducible refine (HPut.out _ hd1).mono ?_); rintro e w8 ⟨x8, rfl, hR8, hb8⟩; have hb9 := hd1.trans (hb8.mono hd1.size); have T8 := Aside0.mk (T5.out.step hb9); have R8 := Aside0.mk (Kd.R_lower hR8 (Nat.le_trans T5.out.below.size hd1.size)); have s0 := mvc hb9 m0; have s1 := mvc hb9 k3; have s2 := mvc hb9 y0; have s3 := mvc hb9 y1; have s4 := mvc hb9 y2))
          go_wp2
          go_roundg (l0_1.length - (i + 1))
          case measure => have h1_ := HLt.out; have h2_ := hg; omega
          case rel => exact ⟨i + 1, acc2, by rw [w64 (show l0_1.length ≤ 1000000 by have h1_ := HL5.out; have h2_ := HLe.out; omega) HLt.out], HLt.out, by have := HLt.out; omega, HA2, R8, HF2, T8⟩
         ·have hp' : (putP acc ⟨t.f0, v⟩).2 = false := Bool.eq_false_iff.2 hp
          obtain ⟨rfl, rfl⟩ : r1 = [] ∧ r2 = false := by
           have := HA.out
           rw [oneL, if_neg (show ¬ con t from hc), if_neg (show ¬ (putP acc (bnd t v)).2 = true from hp)] at this
           injection this with e1 e2
           exact ⟨e1.symm, e2.symm⟩
          rw [hp'] at HPut
          generalize (putP acc ⟨t.f0, v⟩).1 = acc2 at HPut
          clear HA hp hp' hc HFa
          have hd1 : Go.RowKit.Below wq.heap.size wq wq.drew := below_drew1 (Go.RowKit.Below.refl _ _)
          go_region_held3 (fun w' => w'.cell? ⟨gb, 0, none⟩ = some (.string t.f0) ∧ w'.cell? ⟨w.heap.size + 1, 1, none⟩ = some (.slice (some ad2) l1_1.length c1_1) ∧ w'.cell? (ad2.add (i * 3)) = some (.int .i64 v.f0) ∧ w'.cell? ⟨(ad2.add (i * 3)).block, (ad2.add (i * 3)).off + 1, none⟩ = some (.int .i64 v.f1) ∧ w'.cell? ⟨(ad2.add (i * 3)).block, (ad2.add (i * 3)).off + 2, none⟩ = some (.string v.f2))
           (first | go_keep | (refine ⟨?_, ?_, ?_, ?_, ?_⟩ <;> assumption))
           (first | (go_at_call 61; (with_reducible refine (HPut.out _ hd1).mono ?_); rintro e w8 ⟨x8, rfl, hR8, hb8⟩; have hb9 := hd1.trans (hb8.mono hd1.size); have T8 := Aside0.mk (T5.out.step hb9); have R8 := Aside0.mk (Kd.R_lower hR8 (Nat.le_trans T5.out.below.size hd1.size)); have s0 := mvc hb9 m0; have s1 := mvc hb9 k3; have s2 := mvc hb9 y0; have s3 := mvc hb9 y1; have s4 := mvc hb9 y2))
          go_wp2
          go_ret2
          exact ⟨_, rfl, Kd.R_nil _ _ _ _ _, T8.out.below⟩
       ·have hnl : ¬ (i : Int) < (l0_1.length : Int) := by omega
        have hd : oneL acc [] (l1_1.drop i) = (r1, r2) := by
         have := HA.out
         rwa [List.drop_eq_nil_of_le (by omega)] at this
        rw [oneL] at hd
        injection hd with e1 e2
        subst e1 e2
        clear HA
        go_wp2
        go_ret2
        exact ⟨_, rfl, HRa.out, T.out.below⟩
     ·have hv : r1 = [] ∧ r2 = false := by
       have := HRes.out
       unfold oneP at this
       rw [if_neg (fun h => hl h.2.2.2.2)] at this
       injection this with x y
       exact ⟨x.symm, y.symm⟩
      obtain ⟨rfl, rfl⟩ := hv
      clear HRes
      rw [hm] at G82
      rw [hf] at G83
      rw [hk] at G25
      have hn0 : (a0_0.toList == a1_0.toList) = true := by rw [hn]; exact beq_self_eq_true _
      have hn1 : (a0_0.toList != a1_0.toList) = false := by rw [hn]; exact bne_self_eq_false _
      have hl0 : ((l0_1.length : Int) == (l1_1.length : Int)) = false := beq_eq_false_iff_ne.2 (by omega)
      have hl1 : ((l0_1.length : Int) != (l1_1.length : Int)) = true := bne_iff_ne.2 (by omega)
      clear hn hl hm hf hk
      go_enter Tryz.func28, Tryz.ntmps28
      go_wp2_with (first | (go_at_call 58; (with_reducible refine (G82.out _ T0.out.below).mono ?_); rintro e w1 ⟨rfl, hb1⟩; have T1 := Aside0.mk (T0.out.step hb1); obtain ⟨_, _, k10, k11, k12, k13⟩ := T1.out; clear hb1) | (go_at_call 59; (with_reducible refine (G83.out _ T1.out.below).mono ?_); rintro e w2 ⟨rfl, hb2⟩; have T2 := Aside0.mk (T1.out.step hb2); obtain ⟨_, _, k20, k21, k22, k23⟩ := T2.out; clear hb2 k10 k11 k12 k13) | (go_at_call 34; (with_reducible refine (G25.out _ T2.out.below).mono ?_); rintro e w3 ⟨rfl, hb3⟩; have T3 := Aside0.mk (T2.out.step hb3); obtain ⟨_, _, k30, k31, k32, k33⟩ := T3.out; clear hb3 k20 k21 k22 k23))
      go_ret2
      exact ⟨_, rfl, Kd.R_nil _ _ _ _ _, T3.out.below⟩
    ·have hv : r1 = [] ∧ r2 = false := by
      have := HRes.out
      unfold oneP at this
      rw [if_neg (fun h => hn h.2.2.2.1)] at this
      injection this with x y
      exact ⟨x.symm, y.symm⟩
     obtain ⟨rfl, rfl⟩ := hv
     clear HRes
     rw [hm] at G82
     rw [hf] at G83
     rw [hk] at G25
     have hn0 : (a0_0.toList == a1_0.toList) = false := beq_eq_false_iff_ne.2 (fun h => hn ((tl_iff _ _).1 h))
     have hn1 : (a0_0.toList != a1_0.toList) = true := bne_iff_ne.2 (fun h => hn ((tl_iff _ _).1 h))
     clear hn hm hf hk
     go_enter Tryz.func28, Tryz.ntmps28
     go_wp2_with (first | (go_at_call 58; (with_reducible refine (G82.out _ T0.out.below).mono ?_); rintro e w1 ⟨rfl, hb1⟩; have T1 := Aside0.mk (T0.out.step hb1); obtain ⟨_, _, k10, k11, k12, k13⟩ := T1.out; clear hb1) | (go_at_call 59; (with_reducible refine (G83.out _ T1.out.below).mono ?_); rintro e w2 ⟨rfl, hb2⟩; have T2 := Aside0.mk (T1.out.step hb2); obtain ⟨_, _, k20, k21, k22, k23⟩ := T2.out; clear hb2 k10 k11 k12 k13) | (go_at_call 34; (with_reducible refine (G25.out _ T2.out.below).mono ?_); rintro e w3 ⟨rfl, hb3⟩; have T3 := Aside0.mk (T2.out.step hb3); obtain ⟨_, _, k30, k31, k32, k33⟩ := T3.out; clear hb3 k20 k21 k22 k23))
     go_ret2
     exact ⟨_, rfl, Kd.R_nil _ _ _ _ _, T3.out.below⟩
   ·have hv : r1 = [] ∧ r2 = false := by
     have := HRes.out
     unfold oneP at this
     rw [if_neg (fun h => hk h.2.2.1)] at this
     injection this with x y
     exact ⟨x.symm, y.symm⟩
    obtain ⟨rfl, rfl⟩ := hv
    clear HRes
    have hmb : (chkP l2 != 0) = true := by simpa using hk
    rw [hm] at G82
    rw [hf] at G83
    generalize chkP l2 = q at G25 hk hmb
    clear hm hf
    go_enter Tryz.func28, Tryz.ntmps28
    go_wp2_with (first | (go_at_call 58; (with_reducible refine (G82.out _ T0.out.below).mono ?_); rintro e w1 ⟨rfl, hb1⟩; have T1 := Aside0.mk (T0.out.step hb1); obtain ⟨_, _, k10, k11, k12, k13⟩ := T1.out; clear hb1) | (go_at_call 59; (with_reducible refine (G83.out _ T1.out.below).mono ?_); rintro e w2 ⟨rfl, hb2⟩; have T2 := Aside0.mk (T1.out.step hb2); obtain ⟨_, _, k20, k21, k22, k23⟩ := T2.out; clear hb2 k10 k11 k12 k13) | (go_at_call 34; (with_reducible refine (G25.out _ T2.out.below).mono ?_); rintro e w3 ⟨rfl, hb3⟩; have T3 := Aside0.mk (T2.out.step hb3); obtain ⟨_, _, k30, k31, k32, k33⟩ := T3.out; clear hb3 k20 k21 k22 k23))
    go_ret2
    exact ⟨_, rfl, Kd.R_nil _ _ _ _ _, T3.out.below⟩
  ·have hv : r1 = [] ∧ r2 = false := by
    have := HRes.out
    unfold oneP at this
    rw [if_neg (fun h => hf h.2.1)] at this
    injection this with x y
    exact ⟨x.symm, y.symm⟩
   obtain ⟨rfl, rfl⟩ := hv
   clear HRes
   have hmb : (factP a1_0 l1_1 != 0) = true := by simpa using hf
   rw [hm] at G82
   generalize factP a1_0 l1_1 = q at G83 hf hmb
   clear hm
   go_enter Tryz.func28, Tryz.ntmps28
   go_wp2_with (first | (go_at_call 58; (with_reducible refine (G82.out _ T0.out.below).mono ?_); rintro e w1 ⟨rfl, hb1⟩; have T1 := Aside0.mk (T0.out.step hb1); obtain ⟨_, _, k10, k11, k12, k13⟩ := T1.out; clear hb1) | (go_at_call 59; (with_reducible refine (G83.out _ T1.out.below).mono ?_); rintro e w2 ⟨rfl, hb2⟩; have T2 := Aside0.mk (T1.out.step hb2); obtain ⟨_, _, k20, k21, k22, k23⟩ := T2.out; clear hb2 k10 k11 k12 k13) | (go_at_call 34; (with_reducible refine (G25.out _ T2.out.below).mono ?_); rintro e w3 ⟨rfl, hb3⟩; have T3 := Aside0.mk (T2.out.step hb3); obtain ⟨_, _, k30, k31, k32, k33⟩ := T3.out; clear hb3 k20 k21 k22 k23))
   go_ret2
   exact ⟨_, rfl, Kd.R_nil _ _ _ _ _, T2.out.below⟩
 ·have hv : r1 = [] ∧ r2 = false := by
   have := HRes.out
   unfold oneP at this
   rw [if_neg (fun h => hm h.1)] at this
   injection this with x y
   exact ⟨x.symm, y.symm⟩
  obtain ⟨rfl, rfl⟩ := hv
  clear HRes
  have hmb : (matP a0_0 l0_1 != 0) = true := by simpa using hm
  generalize matP a0_0 l0_1 = q at G82 hm hmb
  go_enter Tryz.func28, Tryz.ntmps28
  go_wp2_with (first | (go_at_call 58; (with_reducible refine (G82.out _ T0.out.below).mono ?_); rintro e w1 ⟨rfl, hb1⟩; have T1 := Aside0.mk (T0.out.step hb1); obtain ⟨_, _, k10, k11, k12, k13⟩ := T1.out; clear hb1) | (go_at_call 59; (with_reducible refine (G83.out _ T1.out.below).mono ?_); rintro e w2 ⟨rfl, hb2⟩; have T2 := Aside0.mk (T1.out.step hb2); obtain ⟨_, _, k20, k21, k22, k23⟩ := T2.out; clear hb2 k10 k11 k12 k13) | (go_at_call 34; (with_reducible refine (G25.out _ T2.out.below).mono ?_); rintro e w3 ⟨rfl, hb3⟩; have T3 := Aside0.mk (T2.out.step hb3); obtain ⟨_, _, k30, k31, k32, k33⟩ := T3.out; clear hb3 k20 k21 k22 k23))
  go_ret2
  exact ⟨_, rfl, Kd.R_nil _ _ _ _ _, T1.out.below⟩
end Go.Proofs.YtghommaokdhjmaaGreat.P
namespace Go.Proofs.YtghommaokdhjmaaGreat.P
open Go.RowKit Go.Proofs.YtghommaokdhjmaaGreatW.PrintWords Go.Proofs.YtghommaokdhjmaaGreatW.PrintLast Gate
def match_Vars.l0 : Nat → List ByteArray → List (S92) → Int → Int → Option (List ByteArray)
 | 0, _, _, _, _ => none
 | k + 1, x3, x7, x8, x9 => if x9 < x8 then (if 0 ≤ x9 then (if x9 < (x7.length : Int) then (if ((rd_T92 x7 x9).f0).toList = ([] : List UInt8) then (match_Vars.l0 k x3 x7 x8 (wrap64 (x9 + 1))) else ((slices_Contains_string_string.f k x3 ((rd_T92 x7 x9).f0)).bind fun t193 => (if t193 = true then (match_Vars.l0 k x3 x7 x8 (wrap64 (x9 + 1))) else (if x3.length < 8796093022208 then (match_Vars.l0 k (x3 ++ [(rd_T92 x7 x9).f0]) x7 x8 (wrap64 (x9 + 1))) else (none))))) else (none)) else (none)) else (some x3)
def match_Vars.f (k : Nat) (a0_0 : ByteArray) (l0_1 : List (S92)) : Option (List ByteArray) := match_Vars.l0 k ([] : List ByteArray) l0_1 (l0_1.length : Int) 0
set_option maxHeartbeats 8000000 in
set_option maxRecDepth 100000 in
theorem match_Vars.calls (k : Nat) (a0_0 : ByteArray) (A0_1 : Option Addr) (c0_1 : Nat) (l0_1 : List (S92)) (r : List ByteArray) (w : World) (hr0_1 : Kd.C k92 w A0_1 l0_1.length l0_1) (hc0_1 : l0_1.length ≤ c0_1) (h : match_Vars.f k a0_0 l0_1 = some r) :
  Calls Tryz.prog 71 #[.agg #[.string a0_0, .slice A0_1 l0_1.length c0_1]] w fun e w' => ∃ v0_ : Value, e = .returned (v0_) ∧ Kd.R Kd.string 9 w' w.heap.size (fun _ => True) v0_ r ∧ Below w.heap.size w w' := by
 have hu25 := Tryz.underlying25
 have hu92 := Tryz.underlying92
 have HR0_1 := Aside0.mk hr0_1
 have HC0_1 := Aside0.mk hc0_1
 clear hr0_1 hc0_1
 have HB := Aside0.mk (Below.refl w.heap.size w)
 have H : (match_Vars.l0 k ([] : List ByteArray) l0_1 (l0_1.length : Int) 0) = some r := h
 clear h
 have H' := Aside0.mk H
 clear H
 go_enter Tryz.func71, Tryz.ntmps71
 go_wp2_with (first | ((with_reducible refine gate_dst (N := 1) rfl ?_); refine bE (N := 1) (cs := #[.string a0_0, .slice A0_1 l0_1.length c0_1]) (t := 25) ?_; intro gb190 hg w2 hbox hb; have n0_ := Aside0.mk (below_step bB0 hb); have n1_ := Aside0.mk (hbox); have n2_ := Aside0.mk ((by rw [hg]; exact (below_size bB0) : w.heap.size ≤ gb190)); have n3_ := Aside0.mk ((by rw [hg]; exact (below_size bB0) : w.heap.size ≤ gb190)); clear HB; have HB := n0_; have BK190 := n1_; have GW190 := n2_; have GE190 := n3_; clear n0_ n1_ n2_ n3_; clear hb hbox hg; have hcz3_0 : w2.cell? ⟨gb190, 0, none⟩ = some (.string a0_0) := (blk_cell BK190.out 0).trans rfl; have hcz3_1 : w2.cell? ⟨gb190, 1, none⟩ = some (.slice A0_1 l0_1.length c0_1) := (blk_cell BK190.out 1).trans rfl; have hfz3_0 := blk_frozen BK190.out 0; have hfz3_1 := blk_frozen BK190.out 1))
 go_loopg [3, 9] k (fun kq v3 v9 w' => ∃ (x3_1 : List ByteArray) (x9_1 : Int), v9 = .int .i64 x9_1 ∧ Aside0 (match_Vars.l0 kq x3_1 l0_1 (l0_1.length : Int) x9_1 = some r) ∧ Aside0 (kq ≤ k) ∧ Aside0 (Kd.R Kd.string 9 w' w.heap.size (fun _ => True) v3 x3_1) ∧ Aside0 (w'.heap[gb190]? = some (.cells #[.string a0_0, (.slice A0_1 l0_1.length c0_1)] 25 (0, 0))) ∧ Aside0 (Below w.heap.size w w'))
 case atStart => exact ⟨(([] : List ByteArray)), (0), (by first | rfl | (simp; done) | (simp [*]; done)), H', ⟨Nat.le_refl _⟩, ⟨by first | exact Kd.R_nil _ _ _ _ _ | exact Kd.N_nil _ _ _ _ _ | exact Kd.V_nil _ _ _ _ _ | exact Kd.Q_nil _ _ _ _ _ | exact Kd.S_nil _ _ _ _ _⟩, ⟨by refine bk ?_; exact BK190.out⟩, ⟨(bB1 GE190.out)⟩⟩
 case round =>
  clear H'
  (try clear p2); (try clear hcz3_0); (try clear hcz3_1); (try clear hfz3_0); (try clear hfz3_1)
  obtain ⟨x3_1, x9_1, rfl, HA, HK1, HO_3, BK190, HB⟩ := hrel
  cases gk with
  | zero => exact absurd HA.out (by simp [match_Vars.l0])
  | succ k1 =>
   have H := HA.out
   clear HA
   simp only [match_Vars.l0] at H
   by_cases c4 : x9_1 < (l0_1.length : Int)
   ·rw [if_pos c4] at H
    have c4b0 : decide (x9_1 < (l0_1.length : Int)) = true := decide_eq_true c4
    clear c4
    by_cases c5 : 0 ≤ x9_1
    ·rw [if_pos c5] at H
     have c5b0 : decide (0 ≤ x9_1) = true := decide_eq_true c5
     clear c5
     by_cases c6 : x9_1 < (l0_1.length : Int)
     ·rw [if_pos c6] at H
      have c6b0 : decide (x9_1 < (l0_1.length : Int)) = true := decide_eq_true c6
      clear c6
      by_cases c7 : ((rd_T92 l0_1 x9_1).f0).toList = ([] : List UInt8)
      ·rw [if_pos c7] at H
       have c7b0 : (((rd_T92 l0_1 x9_1).f0).toList == ([] : List UInt8)) = true := beq_iff_eq.mpr c7
       have c7b1 : (((rd_T92 l0_1 x9_1).f0).toList != ([] : List UInt8)) = false := bne_eq_false_iff_eq.mpr c7
       clear c7
       have H' := Aside0.mk H
       clear H
       have p191 : 0 ≤ (x9_1 : Int) := of_decide_eq_true (by first | (with_reducible assumption) | assumption)
       have q191 : x9_1 < (l0_1.length : Int) := of_decide_eq_true (by first | (with_reducible assumption) | assumption)
       obtain ⟨ad191, e191, hx191_0, hx191_1, hx191_2, hx191_3⟩ := at_T92 HR0_1.out x9_1 p191 q191
       cases e191
       replace hx191_0 := mvc HB.out hx191_0
       replace hx191_1 := mvc HB.out hx191_1
       replace hx191_2 := mvc HB.out hx191_2
       replace hx191_3 := mvc HB.out hx191_3
       replace p191 := eq_true p191
       replace q191 := eq_true q191
       go_wp2_with (first | ((with_reducible refine gate_dst (N := 5) rfl ?_); refine bE (N := 5) (cs := #[.string (⟨#[]⟩ : ByteArray), .int .i64 0, .int .i64 0, .string (⟨#[]⟩ : ByteArray)]) (t := 92) ?_; intro gb192 hg w8 hbox hb; have n0_ := Aside0.mk (Kd.R_below (sR HO_3.out) hb); have n1_ := Aside0.mk (blk_below (g := gb190) (o := .cells #[.string a0_0, .slice (some ad191) l0_1.length c0_1] 25 (0, 0)) (by refine bk ?_; exact BK190.out) hb); have n2_ := Aside0.mk (below_step (bB1 GE190.out) hb); have n3_ := Aside0.mk (hbox); have n4_ := Aside0.mk ((by rw [hg]; exact (below_size (bB1 GE190.out)) : w.heap.size ≤ gb192)); have n5_ := Aside0.mk ((by rw [hg]; exact (below_size (bB1 GE190.out)) : w.heap.size ≤ gb192)); have n6_ := Aside0.mk ((by rw [hg]; exact Nat.ne_of_lt (blk_lt (g := gb190) (o := .cells #[.string a0_0, .slice (some ad191) l0_1.length c0_1] 25 (0, 0)) (by refine bk ?_; exact BK190.out)) : gb190 ≠ gb192)); have n7_ := Aside0.mk ((by rw [hg]; exact Nat.ne_of_gt (blk_lt (g := gb190) (o := .cells #[.string a0_0, .slice (some ad191) l0_1.length c0_1] 25 (0, 0)) (by refine bk ?_; exact BK190.out)) : gb192 ≠ gb190)); clear HO_3; clear BK190; clear HB; have HO_3 := n0_; have BK190 := n1_; have HB := n2_; have BK192 := n3_; have GW192 := n4_; have GE192 := n5_; have NB190_192 := n6_; have NB192_190 := n7_; clear n0_ n1_ n2_ n3_ n4_ n5_ n6_ n7_; clear hb hbox hg; have hnb9 := NB192_190.out; have hnc9 := NB190_192.out; have hcz10_0 : w8.cell? ⟨gb192, 0, none⟩ = some (.string (⟨#[]⟩ : ByteArray)) := (blk_cell BK192.out 0).trans rfl; have hcz10_1 : w8.cell? ⟨gb192, 1, none⟩ = some (.int .i64 0) := (blk_cell BK192.out 1).trans rfl; have hcz10_2 : w8.cell? ⟨gb192, 2, none⟩ = some (.int .i64 0) := (blk_cell BK192.out 2).trans rfl; have hcz10_3 : w8.cell? ⟨gb192, 3, none⟩ = some (.string (⟨#[]⟩ : ByteArray)) := (blk_cell BK192.out 3).trans rfl; have hfz10_0 := blk_frozen BK192.out 0; have hfz10_1 := blk_frozen BK192.out 1; have hfz10_2 := blk_frozen BK192.out 2; have hfz10_3 := blk_frozen BK192.out 3))
       go_roundg k1
       case measure => have := HK1.out; omega
       case rel => exact ⟨(x3_1), (wrap64 (x9_1 + 1)), (by first | rfl | (simp; done) | (simp [*]; done)), H', ⟨by have := HK1.out; omega⟩, ⟨by (with_reducible repeat (first | apply Kd.R_alloc | apply Kd.R_drewN | apply Kd.R_drew)); exact Kd.R_mono (Kd.R_far (p := ⟨gb192, 3, none⟩) (Kd.R_far (p := ⟨gb192, 2, none⟩) (Kd.R_far (p := ⟨gb192, 1, none⟩) (Kd.R_far (p := ⟨gb192, 0, none⟩) (Kd.R_types HO_3.out BK192.out (by decide)) (fun _ hk => hk.2) (.string ((rd_T92 l0_1 x9_1).f0))) (fun _ hk => hk.2) (.int .i64 ((rd_T92 l0_1 x9_1).f1.f0))) (fun _ hk => hk.2) (.int .i64 ((rd_T92 l0_1 x9_1).f1.f1))) (fun _ hk => hk.2) (.string ((rd_T92 l0_1 x9_1).f1.f2))) (fun _ hk => trivial)⟩, ⟨by refine bk ?_; refine blk_far ?_ NB190_192.out _; refine bk ?_; refine blk_far ?_ NB190_192.out _; refine bk ?_; refine blk_far ?_ NB190_192.out _; refine bk ?_; refine blk_far ?_ NB190_192.out _; refine bk ?_; exact BK190.out⟩, ⟨(bB2 GE190.out GE192.out)⟩⟩
      ·rw [if_neg c7] at H
       have c7b0 : (((rd_T92 l0_1 x9_1).f0).toList == ([] : List UInt8)) = false := beq_eq_false_iff_ne.mpr c7
       have c7b1 : (((rd_T92 l0_1 x9_1).f0).toList != ([] : List UInt8)) = true := bne_iff_ne.mpr c7
       replace H := Option.bind_eq_some_iff.mp H
       obtain ⟨t193, A110, H⟩ := H
       replace H : (if t193 = true then (match_Vars.l0 k1 x3_1 l0_1 (l0_1.length : Int) (wrap64 (x9_1 + 1))) else (if x3_1.length < 8796093022208 then (match_Vars.l0 k1 (x3_1 ++ [(rd_T92 l0_1 x9_1).f0]) l0_1 (l0_1.length : Int) (wrap64 (x9_1 + 1))) else (none))) = some r := H
       have A11 := Aside0.mk A110
       clear A110
       by_cases c12 : t193 = true
       ·subst c12
        have H1 : (match_Vars.l0 k1 x3_1 l0_1 (l0_1.length : Int) (wrap64 (x9_1 + 1))) = some r := by rw [if_pos rfl] at H; exact H
        clear H
        have H := H1
        clear H1
        have H' := Aside0.mk H
        clear H
        have p191 : 0 ≤ (x9_1 : Int) := of_decide_eq_true (by first | (with_reducible assumption) | assumption)
        have q191 : x9_1 < (l0_1.length : Int) := of_decide_eq_true (by first | (with_reducible assumption) | assumption)
        obtain ⟨ad191, e191, hx191_0, hx191_1, hx191_2, hx191_3⟩ := at_T92 HR0_1.out x9_1 p191 q191
        cases e191
        replace hx191_0 := mvc HB.out hx191_0
        replace hx191_1 := mvc HB.out hx191_1
        replace hx191_2 := mvc HB.out hx191_2
        replace hx191_3 := mvc HB.out hx191_3
        replace p191 := eq_true p191
        replace q191 := eq_true q191
        go_wp2_with (first | ((with_reducible refine gate_dst (N := 5) rfl ?_); refine bE (N := 5) (cs := #[.string (⟨#[]⟩ : ByteArray), .int .i64 0, .int .i64 0, .string (⟨#[]⟩ : ByteArray)]) (t := 92) ?_; intro gb192 hg w13 hbox hb; have n0_ := Aside0.mk (Kd.R_below (sR HO_3.out) hb); have n1_ := Aside0.mk (blk_below (g := gb190) (o := .cells #[.string a0_0, .slice (some ad191) l0_1.length c0_1] 25 (0, 0)) (by refine bk ?_; exact BK190.out) hb); have n2_ := Aside0.mk (below_step (bB1 GE190.out) hb); have n3_ := Aside0.mk (hbox); have n4_ := Aside0.mk ((by rw [hg]; exact (below_size (bB1 GE190.out)) : w.heap.size ≤ gb192)); have n5_ := Aside0.mk ((by rw [hg]; exact (below_size (bB1 GE190.out)) : w.heap.size ≤ gb192)); have n6_ := Aside0.mk ((by rw [hg]; exact Nat.ne_of_lt (blk_lt (g := gb190) (o := .cells #[.string a0_0, .slice (some ad191) l0_1.length c0_1] 25 (0, 0)) (by refine bk ?_; exact BK190.out)) : gb190 ≠ gb192)); have n7_ := Aside0.mk ((by rw [hg]; exact Nat.ne_of_gt (blk_lt (g := gb190) (o := .cells #[.string a0_0, .slice (some ad191) l0_1.length c0_1] 25 (0, 0)) (by refine bk ?_; exact BK190.out)) : gb192 ≠ gb190)); clear HO_3; clear BK190; clear HB; have HO_3 := n0_; have BK190 := n1_; have HB := n2_; have BK192 := n3_; have GW192 := n4_; have GE192 := n5_; have NB190_192 := n6_; have NB192_190 := n7_; clear n0_ n1_ n2_ n3_ n4_ n5_ n6_ n7_; clear hb hbox hg; have hnb14 := NB192_190.out; have hnc14 := NB190_192.out; have hcz15_0 : w13.cell? ⟨gb192, 0, none⟩ = some (.string (⟨#[]⟩ : ByteArray)) := (blk_cell BK192.out 0).trans rfl; have hcz15_1 : w13.cell? ⟨gb192, 1, none⟩ = some (.int .i64 0) := (blk_cell BK192.out 1).trans rfl; have hcz15_2 : w13.cell? ⟨gb192, 2, none⟩ = some (.int .i64 0) := (blk_cell BK192.out 2).trans rfl; have hcz15_3 : w13.cell? ⟨gb192, 3, none⟩ = some (.string (⟨#[]⟩ : ByteArray)) := (blk_cell BK192.out 3).trans rfl; have hfz15_0 := blk_frozen BK192.out 0; have hfz15_1 := blk_frozen BK192.out 1; have hfz15_2 := blk_frozen BK192.out 2; have hfz15_3 := blk_frozen BK192.out 3; obtain ⟨Ao16, co16, eo16⟩ := Kd.R_slice HO_3.out; subst eo16) | (go_at_call 105; (with_reducible refine (slices_Contains_string_string.calls k1 _ _ x3_1 ((rd_T92 l0_1 x9_1).f0) true _ ?side1 ?side2 A11.out).mono ?_); (case side1 => refine (Kd.R_reads' (e := 9) (base := w.heap.size) (ok := fun k_ => True) (n := x3_1.length) (c := co16) ?_).2.2; exact (sR ((Kd.R_mono (Kd.R_far (p := ⟨gb192, 3, none⟩) (Kd.R_far (p := ⟨gb192, 2, none⟩) (Kd.R_far (p := ⟨gb192, 1, none⟩) (Kd.R_far (p := ⟨gb192, 0, none⟩) (Kd.R_types HO_3.out BK192.out (by decide)) (fun _ hk => hk.2) (.string ((rd_T92 l0_1 x9_1).f0))) (fun _ hk => hk.2) (.int .i64 ((rd_T92 l0_1 x9_1).f1.f0))) (fun _ hk => hk.2) (.int .i64 ((rd_T92 l0_1 x9_1).f1.f1))) (fun _ hk => hk.2) (.string ((rd_T92 l0_1 x9_1).f1.f2))) (fun _ h_ => h_.1))))); (case side2 => exact (Kd.R_reads' HO_3.out).2.1); rintro e w' ⟨rfl, ⟨nd, rfl⟩⟩))
        go_roundg k1
        case measure => have := HK1.out; omega
        case rel => exact ⟨(x3_1), (wrap64 (x9_1 + 1)), (by first | rfl | (simp; done) | (simp [*]; done)), H', ⟨by have := HK1.out; omega⟩, ⟨by (with_reducible repeat (first | apply Kd.R_alloc | apply Kd.R_drewN | apply Kd.R_drew)); exact Kd.R_mono (Kd.R_far (p := ⟨gb192, 3, none⟩) (Kd.R_far (p := ⟨gb192, 2, none⟩) (Kd.R_far (p := ⟨gb192, 1, none⟩) (Kd.R_far (p := ⟨gb192, 0, none⟩) (Kd.R_types HO_3.out BK192.out (by decide)) (fun _ hk => hk.2) (.string ((rd_T92 l0_1 x9_1).f0))) (fun _ hk => hk.2) (.int .i64 ((rd_T92 l0_1 x9_1).f1.f0))) (fun _ hk => hk.2) (.int .i64 ((rd_T92 l0_1 x9_1).f1.f1))) (fun _ hk => hk.2) (.string ((rd_T92 l0_1 x9_1).f1.f2))) (fun _ hk => trivial)⟩, ⟨by refine bk ?_; refine blk_far ?_ NB190_192.out _; refine bk ?_; refine blk_far ?_ NB190_192.out _; refine bk ?_; refine blk_far ?_ NB190_192.out _; refine bk ?_; refine blk_far ?_ NB190_192.out _; refine bk ?_; exact BK190.out⟩, ⟨(bB2 GE190.out GE192.out)⟩⟩
       ·replace c12 := Bool.eq_false_iff.mpr c12
        subst c12
        have H1 : (if x3_1.length < 8796093022208 then (match_Vars.l0 k1 (x3_1 ++ [(rd_T92 l0_1 x9_1).f0]) l0_1 (l0_1.length : Int) (wrap64 (x9_1 + 1))) else (none)) = some r := by rw [if_neg (show ¬ (false = true) by decide)] at H; exact H
        clear H
        have H := H1
        clear H1
        by_cases c17 : x3_1.length < 8796093022208
        ·rw [if_pos c17] at H
         have LMc17 := Aside0.mk c17
         clear c17
         obtain ⟨y194, hy194⟩ : ∃ y_ : List ByteArray, y_ = (x3_1 ++ [(rd_T92 l0_1 x9_1).f0]) := ⟨_, rfl⟩
         replace H : (match_Vars.l0 k1 y194 l0_1 (l0_1.length : Int) (wrap64 (x9_1 + 1))) = some r := by first | (rw [hy194]; with_reducible exact H) | (have H2_ := (Option.bind_some _ _).symm.trans H; rw [hy194]; with_reducible exact H2_) | (have H2_ := (Option.bind_some _ _).symm.trans H; with_reducible exact H2_) | with_reducible exact H | (rw [hy194]; exact H) | exact H
         have Ny194 := Aside0.mk hy194
         clear hy194
         have H' := Aside0.mk H
         clear H
         have p191 : 0 ≤ (x9_1 : Int) := of_decide_eq_true (by first | (with_reducible assumption) | assumption)
         have q191 : x9_1 < (l0_1.length : Int) := of_decide_eq_true (by first | (with_reducible assumption) | assumption)
         obtain ⟨ad191, e191, hx191_0, hx191_1, hx191_2, hx191_3⟩ := at_T92 HR0_1.out x9_1 p191 q191
         cases e191
         replace hx191_0 := mvc HB.out hx191_0
         replace hx191_1 := mvc HB.out hx191_1
         replace hx191_2 := mvc HB.out hx191_2
         replace hx191_3 := mvc HB.out hx191_3
         replace p191 := eq_true p191
         replace q191 := eq_true q191
         go_wp2_with (first | ((with_reducible refine gate_dst (N := 5) rfl ?_); refine bE (N := 5) (cs := #[.string (⟨#[]⟩ : ByteArray), .int .i64 0, .int .i64 0, .string (⟨#[]⟩ : ByteArray)]) (t := 92) ?_; intro gb192 hg w18 hbox hb; have n0_ := Aside0.mk (Kd.R_below (sR HO_3.out) hb); have n1_ := Aside0.mk (blk_below (g := gb190) (o := .cells #[.string a0_0, .slice (some ad191) l0_1.length c0_1] 25 (0, 0)) (by refine bk ?_; exact BK190.out) hb); have n2_ := Aside0.mk (below_step (bB1 GE190.out) hb); have n3_ := Aside0.mk (hbox); have n4_ := Aside0.mk ((by rw [hg]; exact (below_size (bB1 GE190.out)) : w.heap.size ≤ gb192)); have n5_ := Aside0.mk ((by rw [hg]; exact (below_size (bB1 GE190.out)) : w.heap.size ≤ gb192)); have n6_ := Aside0.mk ((by rw [hg]; exact Nat.ne_of_lt (blk_lt (g := gb190) (o := .cells #[.string a0_0, .slice (some ad191) l0_1.length c0_1] 25 (0, 0)) (by refine bk ?_; exact BK190.out)) : gb190 ≠ gb192)); have n7_ := Aside0.mk ((by rw [hg]; exact Nat.ne_of_gt (blk_lt (g := gb190) (o := .cells #[.string a0_0, .slice (some ad191) l0_1.length c0_1] 25 (0, 0)) (by refine bk ?_; exact BK190.out)) : gb192 ≠ gb190)); clear HO_3; clear BK190; clear HB; have HO_3 := n0_; have BK190 := n1_; have HB := n2_; have BK192 := n3_; have GW192 := n4_; have GE192 := n5_; have NB190_192 := n6_; have NB192_190 := n7_; clear n0_ n1_ n2_ n3_ n4_ n5_ n6_ n7_; clear hb hbox hg; have hnb19 := NB192_190.out; have hnc19 := NB190_192.out; have hcz20_0 : w18.cell? ⟨gb192, 0, none⟩ = some (.string (⟨#[]⟩ : ByteArray)) := (blk_cell BK192.out 0).trans rfl; have hcz20_1 : w18.cell? ⟨gb192, 1, none⟩ = some (.int .i64 0) := (blk_cell BK192.out 1).trans rfl; have hcz20_2 : w18.cell? ⟨gb192, 2, none⟩ = some (.int .i64 0) := (blk_cell BK192.out 2).trans rfl; have hcz20_3 : w18.cell? ⟨gb192, 3, none⟩ = some (.string (⟨#[]⟩ : ByteArray)) := (blk_cell BK192.out 3).trans rfl; have hfz20_0 := blk_frozen BK192.out 0; have hfz20_1 := blk_frozen BK192.out 1; have hfz20_2 := blk_frozen BK192.out 2; have hfz20_3 := blk_frozen BK192.out 3; obtain ⟨Ao21, co21, eo21⟩ := Kd.R_slice HO_3.out; subst eo21) | (go_at_call 105; (with_reducible refine (slices_Contains_string_string.calls k1 _ _ x3_1 ((rd_T92 l0_1 x9_1).f0) false _ ?side1 ?side2 A11.out).mono ?_); (case side1 => refine (Kd.R_reads' (e := 9) (base := w.heap.size) (ok := fun k_ => True) (n := x3_1.length) (c := co21) ?_).2.2; exact (sR ((Kd.R_mono (Kd.R_far (p := ⟨gb192, 3, none⟩) (Kd.R_far (p := ⟨gb192, 2, none⟩) (Kd.R_far (p := ⟨gb192, 1, none⟩) (Kd.R_far (p := ⟨gb192, 0, none⟩) (Kd.R_types HO_3.out BK192.out (by decide)) (fun _ hk => hk.2) (.string ((rd_T92 l0_1 x9_1).f0))) (fun _ hk => hk.2) (.int .i64 ((rd_T92 l0_1 x9_1).f1.f0))) (fun _ hk => hk.2) (.int .i64 ((rd_T92 l0_1 x9_1).f1.f1))) (fun _ hk => hk.2) (.string ((rd_T92 l0_1 x9_1).f1.f2))) (fun _ h_ => h_.1))))); (case side2 => exact (Kd.R_reads' HO_3.out).2.1); rintro e w' ⟨rfl, ⟨nd, rfl⟩⟩) | ((with_reducible refine gate_builtin (b := .append) (xs := #[.tmp 23, .tmp 26]) rfl ?_); at_builtin; refine Kd.R_append Kd.string (w0 := w) w.heap.size rfl (.tmp 23) (.tmp 26) 70 9 (.string ⟨#[]⟩) 16 rfl Tryz.underlying70 info9 rfl (by decide) (by omega) (.slice Ao21 x3_1.length co21) x3_1 ((rd_T92 l0_1 x9_1).f0) [.string ((rd_T92 l0_1 x9_1).f0)] (fun _ => True) (fun _ => False) rfl (by first | (go_simp; done) | (go_simp; rfl)) ?aP (fun _ hk => hk.elim) ?aF ?aO ?aB ?aS ?aL ?_; (case aP => exact rfl); (case aB => exact (bB2 GE190.out GE192.out)); (case aF => exact (fun _ _ => trivial)); (case aO => exact (sR (Kd.R_mono (Kd.R_far (p := ⟨gb192, 3, none⟩) (Kd.R_far (p := ⟨gb192, 2, none⟩) (Kd.R_far (p := ⟨gb192, 1, none⟩) (Kd.R_far (p := ⟨gb192, 0, none⟩) (Kd.R_types HO_3.out BK192.out (by decide)) (fun _ hk => hk.2) (.string ((rd_T92 l0_1 x9_1).f0))) (fun _ hk => hk.2) (.int .i64 ((rd_T92 l0_1 x9_1).f1.f0))) (fun _ hk => hk.2) (.int .i64 ((rd_T92 l0_1 x9_1).f1.f1))) (fun _ hk => hk.2) (.string ((rd_T92 l0_1 x9_1).f1.f2))) (fun _ hk => trivial)))); (case aS => exact (below_size (bB2 GE190.out GE192.out))); (case aL => have := LMc17.out; omega); intro v195 w22 ho hb hg hat; rw [← Ny194.out] at ho; have n0_ := Aside0.mk (blk_grown (g := gb190) (o := .cells #[.string a0_0, .slice (some ad191) l0_1.length c0_1] 25 (0, 0)) (by refine bk ?_; refine blk_far ?_ NB190_192.out _; refine bk ?_; refine blk_far ?_ NB190_192.out _; refine bk ?_; refine blk_far ?_ NB190_192.out _; refine bk ?_; refine blk_far ?_ NB190_192.out _; refine bk ?_; exact BK190.out) hg (Kd.R_ne HO_3.out BK190.out (by decide))); have n1_ := Aside0.mk (blk_grown (g := gb192) (o := .cells #[.string ((rd_T92 l0_1 x9_1).f0), .int .i64 ((rd_T92 l0_1 x9_1).f1.f0), .int .i64 ((rd_T92 l0_1 x9_1).f1.f1), .string ((rd_T92 l0_1 x9_1).f1.f2)] 92 (0, 0)) (by refine bk ?_; refine blk_put (cs := #[.string ((rd_T92 l0_1 x9_1).f0), .int .i64 ((rd_T92 l0_1 x9_1).f1.f0), .int .i64 ((rd_T92 l0_1 x9_1).f1.f1), .string (⟨#[]⟩ : ByteArray)]) ?_ 3 _ rfl; refine bk ?_; refine blk_put (cs := #[.string ((rd_T92 l0_1 x9_1).f0), .int .i64 ((rd_T92 l0_1 x9_1).f1.f0), .int .i64 0, .string (⟨#[]⟩ : ByteArray)]) ?_ 2 _ rfl; refine bk ?_; refine blk_put (cs := #[.string ((rd_T92 l0_1 x9_1).f0), .int .i64 0, .int .i64 0, .string (⟨#[]⟩ : ByteArray)]) ?_ 1 _ rfl; refine bk ?_; refine blk_put (cs := #[.string (⟨#[]⟩ : ByteArray), .int .i64 0, .int .i64 0, .string (⟨#[]⟩ : ByteArray)]) ?_ 0 _ rfl; refine bk ?_; exact BK192.out) hg (Kd.R_ne HO_3.out BK192.out (by decide))); have n2_ := Aside0.mk (hb); have n3_ := Aside0.mk (ho); clear BK190; clear BK192; clear HB; clear HO_3; have BK190 := n0_; have BK192 := n1_; have HB := n2_; have HO196 := n3_; clear n0_ n1_ n2_ n3_; clear ho hb hg hat))
         go_roundg k1
         case measure => have := HK1.out; omega
         case rel => exact ⟨(y194), (wrap64 (x9_1 + 1)), (by first | rfl | (simp; done) | (simp [*]; done)), H', ⟨by have := HK1.out; omega⟩, ⟨by (with_reducible repeat (first | apply Kd.R_alloc | apply Kd.R_drewN | apply Kd.R_drew)); exact HO196.out⟩, ⟨by refine bk ?_; exact BK190.out⟩, ⟨(bB2 GE190.out GE192.out)⟩⟩
        ·rw [if_neg c17] at H
         exact absurd H (by simp)
     ·rw [if_neg c6] at H
      exact absurd H (by simp)
    ·rw [if_neg c5] at H
     exact absurd H (by simp)
   ·rw [if_neg c4] at H
    have c4b0 : decide (x9_1 < (l0_1.length : Int)) = false := decide_eq_false c4
    clear c4
    obtain rfl := Option.some.inj H
    go_wp2
    go_ret
    exact ⟨_, eW, by (with_reducible repeat (first | apply Kd.R_alloc | apply Kd.R_drewN | apply Kd.R_drew)); exact HO_3.out, (bB1 GE190.out)⟩
mutual
def qf29.j0 : Nat → Bool → ByteArray → List (S92) → Option (Bool)
 | 0, _, _, _ => none
 | k + 1, x13, x102000, x102001 => if x13 = true then (some true) else (qf29.l0 k 0 x102000 x102001)
def qf29.l0 : Nat → Int → ByteArray → List (S92) → Option (Bool)
 | 0, _, _, _ => none
 | k + 1, x3, x102000, x102001 => if x3 < (x102001.length : Int) then (if 0 ≤ x3 then (if (((rd_T92 x102001 x3).f0).size : Int) > 200 then (some true) else (if (((rd_T92 x102001 x3).f1.f2).size : Int) > 200 then (some true) else (qf29.l0 k (wrap64 (x3 + 1)) x102000 x102001))) else (none)) else (some false)
end
def qf29.f (k : Nat) (a0_0 : ByteArray) (l0_1 : List (S92)) : Option (Bool) := if (a0_0.size : Int) > 200 then (qf29.j0 k true a0_0 l0_1) else (qf29.j0 k (decide ((l0_1.length : Int) > 20)) a0_0 l0_1)
set_option maxHeartbeats 8000000 in
set_option maxRecDepth 100000 in
theorem qf29.calls (k : Nat) (a0_0 : ByteArray) (A0_1 : Option Addr) (c0_1 : Nat) (l0_1 : List (S92)) (r : Bool) (w : World) (hr0_1 : Kd.C k92 w A0_1 l0_1.length l0_1) (hc0_1 : l0_1.length ≤ c0_1) (h : qf29.f k a0_0 l0_1 = some r) :
  Calls Tryz.prog 29 #[.agg #[.string a0_0, .slice A0_1 l0_1.length c0_1]] w fun e w' => e = .returned (.bool r) ∧ Below w.heap.size w w' := by
 have hu25 := Tryz.underlying25
 have HR0_1 := Aside0.mk hr0_1
 have HC0_1 := Aside0.mk hc0_1
 clear hr0_1 hc0_1
 have HB := Aside0.mk (Below.refl w.heap.size w)
 have H : (if (a0_0.size : Int) > 200 then (qf29.j0 k true a0_0 l0_1) else (qf29.j0 k (decide ((l0_1.length : Int) > 20)) a0_0 l0_1)) = some r := h
 clear h
 have HC2 := Aside0.mk H
 clear H
 go_enter Tryz.func29, Tryz.ntmps29
 go_upto_region 1 with (first | ((with_reducible refine gate_dst (N := 1) rfl ?_); (try (refine gate_guard (by rfl) ?_; dsimp only)); refine bE (N := 1) (cs := #[.string a0_0, .slice A0_1 l0_1.length c0_1]) (t := 25) ?_; intro gb101 hg w3 hbox hb; have n0_ := Aside0.mk (below_step bB0 hb); have n1_ := Aside0.mk (hbox); have n2_ := Aside0.mk ((by rw [hg]; exact (below_size bB0) : w.heap.size ≤ gb101)); have n3_ := Aside0.mk ((by rw [hg]; exact (below_size bB0) : w.heap.size ≤ gb101)); clear HB; have HB := n0_; have BK101 := n1_; have GW101 := n2_; have GE101 := n3_; clear n0_ n1_ n2_ n3_; clear hb hbox hg))
 (try simp only [Act.put, List.setIfInBounds_toArray, List.set_cons_zero, List.set_cons_succ])
 go_cut [13] (fun v13 wc => ∃ (kq : Nat) (x13_1 : Bool), v13 = .bool x13_1 ∧ Aside0 (qf29.j0 kq x13_1 a0_0 l0_1 = some r) ∧ Aside0 (kq ≤ k) ∧ Aside0 (wc.heap[gb101]? = some (.cells #[.string a0_0, (.slice A0_1 l0_1.length c0_1)] 25 (0, 0))) ∧ Aside0 (Below w.heap.size w wc))
 case first =>
  have H := HC2.out
  clear HC2
  by_cases c4 : (a0_0.size : Int) > 200
  ·rw [if_pos c4] at H
   have c4b0 : decide (200 < (a0_0.size : Int)) = true := decide_eq_true c4
   have c4b1 : decide (200 < a0_0.size) = true := decide_eq_true (by omega)
   clear c4
   (first | rw [c4b0] | (simp only [i64_w, i32_w]; rw [c4b0]) | skip)
   have H' := Aside0.mk H
   clear H
   have hcz5_0 : w3.cell? ⟨gb101, 0, none⟩ = some (.string a0_0) := (blk_cell BK101.out 0).trans rfl
   have hcz5_1 : w3.cell? ⟨gb101, 1, none⟩ = some (.slice A0_1 l0_1.length c0_1) := (blk_cell BK101.out 1).trans rfl
   have hfz5_0 := blk_frozen BK101.out 0
   have hfz5_1 := blk_frozen BK101.out 1
   go_wp2
   go_meet
   case rel => exact ⟨_, (true), (by first | rfl | (simp; done) | (simp [*]; done)), H', ⟨by first | omega | exact Nat.le_refl _⟩, ⟨by refine bk ?_; exact BK101.out⟩, ⟨(bB1 GE101.out)⟩⟩
  ·rw [if_neg c4] at H
   have c4b0 : decide (200 < (a0_0.size : Int)) = false := decide_eq_false c4
   have c4b1 : decide (200 < a0_0.size) = false := decide_eq_false (by omega)
   clear c4
   (first | rw [c4b0] | (simp only [i64_w, i32_w]; rw [c4b0]) | skip)
   have H' := Aside0.mk H
   clear H
   have hcz6_0 : w3.cell? ⟨gb101, 0, none⟩ = some (.string a0_0) := (blk_cell BK101.out 0).trans rfl
   have hcz6_1 : w3.cell? ⟨gb101, 1, none⟩ = some (.slice A0_1 l0_1.length c0_1) := (blk_cell BK101.out 1).trans rfl
   have hfz6_0 := blk_frozen BK101.out 0
   have hfz6_1 := blk_frozen BK101.out 1
   go_wp2
   go_meet
   case rel => exact ⟨_, (decide ((l0_1.length : Int) > 20)), (by first | rfl | (simp; done) | (simp [*]; done)), H', ⟨by first | omega | exact Nat.le_refl _⟩, ⟨by refine bk ?_; exact BK101.out⟩, ⟨(bB1 GE101.out)⟩⟩
 case rest =>
  clear HC2
  (try clear c2); (try clear p2); (try clear c4); (try clear c4b0); (try clear c4b1); (try clear hcz5_0); (try clear hcz5_1); (try clear hcz6_0); (try clear hcz6_1); (try clear hfz5_0); (try clear hfz5_1); (try clear hfz6_0); (try clear hfz6_1)
  obtain ⟨kq, x13_1, rfl, HA, HJ1, BK101, HB⟩ := hcut
  cases kq with
  | zero => exact absurd HA.out (by simp [qf29.j0])
  | succ kj1 =>
   have H := HA.out
   clear HA
   simp only [qf29.j0] at H
   by_cases c7 : x13_1 = true
   ·subst c7
    have H1 : (some true) = some r := by rw [if_pos rfl] at H; exact H
    clear H
    have H := H1
    clear H1
    obtain rfl := Option.some.inj H
    go_wp2
    go_ret
    exact ⟨eW, (bB1 GE101.out)⟩
   ·replace c7 := Bool.eq_false_iff.mpr c7
    subst c7
    have H1 : (qf29.l0 kj1 0 a0_0 l0_1) = some r := by rw [if_neg (show ¬ (false = true) by decide)] at H; exact H
    clear H
    have H := H1
    clear H1
    have H' := Aside0.mk H
    clear H
    go_wp2
    go_loopg [3] kj1 (fun kq v3 w' => ∃ (x3_2 : Int), v3 = .int .i64 x3_2 ∧ Aside0 (qf29.l0 kq x3_2 a0_0 l0_1 = some r) ∧ Aside0 (kq ≤ kj1) ∧ Aside0 (w'.heap[gb101]? = some (.cells #[.string a0_0, (.slice A0_1 l0_1.length c0_1)] 25 (0, 0))) ∧ Aside0 (Below w.heap.size w w'))
    case atStart => exact ⟨(0), (by first | rfl | (simp; done) | (simp [*]; done)), H', ⟨Nat.le_refl _⟩, ⟨by refine bk ?_; exact BK101.out⟩, ⟨(bB1 GE101.out)⟩⟩
    case round =>
     clear H'
     (try clear c2); (try clear p2); (try clear c4); (try clear c4b0); (try clear c4b1); (try clear c7); (try clear hcz5_0); (try clear hcz5_1); (try clear hcz6_0); (try clear hcz6_1); (try clear hfz5_0); (try clear hfz5_1); (try clear hfz6_0); (try clear hfz6_1); (try clear p2)
     obtain ⟨x3_2, rfl, HA, HK2, BK101, HB⟩ := hrel
     cases gk with
     | zero => exact absurd HA.out (by simp [qf29.l0])
     | succ k2 =>
      have H := HA.out
      clear HA
      simp only [qf29.l0] at H
      by_cases c8 : x3_2 < (l0_1.length : Int)
      ·rw [if_pos c8] at H
       have c8b0 : decide (x3_2 < (l0_1.length : Int)) = true := decide_eq_true c8
       clear c8
       by_cases c9 : 0 ≤ x3_2
       ·rw [if_pos c9] at H
        have c9b0 : decide (0 ≤ x3_2) = true := decide_eq_true c9
        clear c9
        by_cases c10 : (((rd_T92 l0_1 x3_2).f0).size : Int) > 200
        ·rw [if_pos c10] at H
         have c10b0 : decide (200 < (((rd_T92 l0_1 x3_2).f0).size : Int)) = true := decide_eq_true c10
         have c10b1 : decide (200 < ((rd_T92 l0_1 x3_2).f0).size) = true := decide_eq_true (by omega)
         clear c10
         obtain rfl := Option.some.inj H
         have hcz11_0 : wr.cell? ⟨gb101, 0, none⟩ = some (.string a0_0) := (blk_cell BK101.out 0).trans rfl
         have hcz11_1 : wr.cell? ⟨gb101, 1, none⟩ = some (.slice A0_1 l0_1.length c0_1) := (blk_cell BK101.out 1).trans rfl
         have hfz11_0 := blk_frozen BK101.out 0
         have hfz11_1 := blk_frozen BK101.out 1
         have p102 : 0 ≤ (x3_2 : Int) := of_decide_eq_true (by first | (with_reducible assumption) | assumption)
         have q102 : x3_2 < (l0_1.length : Int) := of_decide_eq_true (by first | (with_reducible assumption) | assumption)
         obtain ⟨ad102, e102, hx102_0, hx102_1, hx102_2, hx102_3⟩ := at_T92 HR0_1.out x3_2 p102 q102
         cases e102
         replace hx102_0 := mvc HB.out hx102_0
         replace hx102_1 := mvc HB.out hx102_1
         replace hx102_2 := mvc HB.out hx102_2
         replace hx102_3 := mvc HB.out hx102_3
         replace p102 := eq_true p102
         replace q102 := eq_true q102
         go_wp2
         go_ret
         exact ⟨eW, (bB1 GE101.out)⟩
        ·rw [if_neg c10] at H
         have c10b0 : decide (200 < (((rd_T92 l0_1 x3_2).f0).size : Int)) = false := decide_eq_false c10
         have c10b1 : decide (200 < ((rd_T92 l0_1 x3_2).f0).size) = false := decide_eq_false (by omega)
         clear c10
         by_cases c12 : (((rd_T92 l0_1 x3_2).f1.f2).size : Int) > 200
         ·rw [if_pos c12] at H
          have c12b0 : decide (200 < (((rd_T92 l0_1 x3_2).f1.f2).size : Int)) = true := decide_eq_true c12
          have c12b1 : decide (200 < ((rd_T92 l0_1 x3_2).f1.f2).size) = true := decide_eq_true (by omega)
          clear c12
          obtain rfl := Option.some.inj H
          have hcz13_0 : wr.cell? ⟨gb101, 0, none⟩ = some (.string a0_0) := (blk_cell BK101.out 0).trans rfl
          have hcz13_1 : wr.cell? ⟨gb101, 1, none⟩ = some (.slice A0_1 l0_1.length c0_1) := (blk_cell BK101.out 1).trans rfl
          have hfz13_0 := blk_frozen BK101.out 0
          have hfz13_1 := blk_frozen BK101.out 1
          have p102 : 0 ≤ (x3_2 : Int) := of_decide_eq_true (by first | (with_reducible assumption) | assumption)
          have q102 : x3_2 < (l0_1.length : Int) := of_decide_eq_true (by first | (with_reducible assumption) | assumption)
          obtain ⟨ad102, e102, hx102_0, hx102_1, hx102_2, hx102_3⟩ := at_T92 HR0_1.out x3_2 p102 q102
          cases e102
          replace hx102_0 := mvc HB.out hx102_0
          replace hx102_1 := mvc HB.out hx102_1
          replace hx102_2 := mvc HB.out hx102_2
          replace hx102_3 := mvc HB.out hx102_3
          replace p102 := eq_true p102
          replace q102 := eq_true q102
          have p103 : 0 ≤ (x3_2 : Int) := of_decide_eq_true (by first | (with_reducible assumption) | assumption)
          have q103 : x3_2 < (l0_1.length : Int) := of_decide_eq_true (by first | (with_reducible assumption) | assumption)
          obtain ⟨ad103, e103, hx103_0, hx103_1, hx103_2, hx103_3⟩ := at_T92 HR0_1.out x3_2 p103 q103
          obtain rfl : ad102 = ad103 := (by injection e103)
          replace hx103_0 := mvc HB.out hx103_0
          replace hx103_1 := mvc HB.out hx103_1
          replace hx103_2 := mvc HB.out hx103_2
          replace hx103_3 := mvc HB.out hx103_3
          replace p103 := eq_true p103
          replace q103 := eq_true q103
          go_wp2
          go_ret
          exact ⟨eW, (bB1 GE101.out)⟩
         ·rw [if_neg c12] at H
          have c12b0 : decide (200 < (((rd_T92 l0_1 x3_2).f1.f2).size : Int)) = false := decide_eq_false c12
          have c12b1 : decide (200 < ((rd_T92 l0_1 x3_2).f1.f2).size) = false := decide_eq_false (by omega)
          clear c12
          have H' := Aside0.mk H
          clear H
          have hcz14_0 : wr.cell? ⟨gb101, 0, none⟩ = some (.string a0_0) := (blk_cell BK101.out 0).trans rfl
          have hcz14_1 : wr.cell? ⟨gb101, 1, none⟩ = some (.slice A0_1 l0_1.length c0_1) := (blk_cell BK101.out 1).trans rfl
          have hfz14_0 := blk_frozen BK101.out 0
          have hfz14_1 := blk_frozen BK101.out 1
          have p102 : 0 ≤ (x3_2 : Int) := of_decide_eq_true (by first | (with_reducible assumption) | assumption)
          have q102 : x3_2 < (l0_1.length : Int) := of_decide_eq_true (by first | (with_reducible assumption) | assumption)
          obtain ⟨ad102, e102, hx102_0, hx102_1, hx102_2, hx102_3⟩ := at_T92 HR0_1.out x3_2 p102 q102
          cases e102
          replace hx102_0 := mvc HB.out hx102_0
          replace hx102_1 := mvc HB.out hx102_1
          replace hx102_2 := mvc HB.out hx102_2
          replace hx102_3 := mvc HB.out hx102_3
          replace p102 := eq_true p102
          replace q102 := eq_true q102
          have p103 : 0 ≤ (x3_2 : Int) := of_decide_eq_true (by first | (with_reducible assumption) | assumption)
          have q103 : x3_2 < (l0_1.length : Int) := of_decide_eq_true (by first | (with_reducible assumption) | assumption)
          obtain ⟨ad103, e103, hx103_0, hx103_1, hx103_2, hx103_3⟩ := at_T92 HR0_1.out x3_2 p103 q103
          obtain rfl : ad102 = ad103 := (by injection e103)
          replace hx103_0 := mvc HB.out hx103_0
          replace hx103_1 := mvc HB.out hx103_1
          replace hx103_2 := mvc HB.out hx103_2
          replace hx103_3 := mvc HB.out hx103_3
          replace p103 := eq_true p103
          replace q103 := eq_true q103
          go_wp2
          go_roundg k2
          case measure => have := HJ1.out; have := HK2.out; omega
          case rel => exact ⟨(wrap64 (x3_2 + 1)), (by first | rfl | (simp; done) | (simp [*]; done)), H', ⟨by have := HJ1.out; have := HK2.out; omega⟩, ⟨by refine bk ?_; exact BK101.out⟩, ⟨(bB1 GE101.out)⟩⟩
       ·rw [if_neg c9] at H
        exact absurd H (by simp)
      ·rw [if_neg c8] at H
       have c8b0 : decide (x3_2 < (l0_1.length : Int)) = false := decide_eq_false c8
       clear c8
       obtain rfl := Option.some.inj H
       have hcz15_0 : wr.cell? ⟨gb101, 0, none⟩ = some (.string a0_0) := (blk_cell BK101.out 0).trans rfl
       have hcz15_1 : wr.cell? ⟨gb101, 1, none⟩ = some (.slice A0_1 l0_1.length c0_1) := (blk_cell BK101.out 1).trans rfl
       have hfz15_0 := blk_frozen BK101.out 0
       have hfz15_1 := blk_frozen BK101.out 1
       go_wp2
       go_ret
       exact ⟨eW, (bB1 GE101.out)⟩
mutual
def qf62.j0 : Nat → Bool → ByteArray → List (S64) → Option (Bool)
 | 0, _, _, _ => none
 | k + 1, x13, x107000, x107001 => if x13 = true then (some true) else (qf62.l0 k 0 x107000 x107001)
def qf62.l0 : Nat → Int → ByteArray → List (S64) → Option (Bool)
 | 0, _, _, _ => none
 | k + 1, x3, x107000, x107001 => if x3 < (x107001.length : Int) then (if 0 ≤ x3 then (if (((rd_T64 x107001 x3).f2).size : Int) > 200 then (some true) else (qf62.l0 k (wrap64 (x3 + 1)) x107000 x107001)) else (none)) else (some false)
end
def qf62.f (k : Nat) (a0_0 : ByteArray) (l0_1 : List (S64)) : Option (Bool) := if (a0_0.size : Int) > 200 then (qf62.j0 k true a0_0 l0_1) else (qf62.j0 k (decide ((l0_1.length : Int) > 20)) a0_0 l0_1)
set_option maxHeartbeats 8000000 in
set_option maxRecDepth 100000 in
theorem qf62.calls (k : Nat) (a0_0 : ByteArray) (A0_1 : Option Addr) (c0_1 : Nat) (l0_1 : List (S64)) (r : Bool) (w : World) (hr0_1 : Kd.C k64 w A0_1 l0_1.length l0_1) (hc0_1 : l0_1.length ≤ c0_1) (h : qf62.f k a0_0 l0_1 = some r) :
  Calls Tryz.prog 62 #[.agg #[.string a0_0, .slice A0_1 l0_1.length c0_1]] w fun e w' => e = .returned (.bool r) ∧ Below w.heap.size w w' := by
 have hu58 := Tryz.underlying58
 have HR0_1 := Aside0.mk hr0_1
 have HC0_1 := Aside0.mk hc0_1
 clear hr0_1 hc0_1
 have HB := Aside0.mk (Below.refl w.heap.size w)
 have H : (if (a0_0.size : Int) > 200 then (qf62.j0 k true a0_0 l0_1) else (qf62.j0 k (decide ((l0_1.length : Int) > 20)) a0_0 l0_1)) = some r := h
 clear h
 have HC2 := Aside0.mk H
 clear H
 go_enter Tryz.func62, Tryz.ntmps62
 go_upto_region 1 with (first | ((with_reducible refine gate_dst (N := 1) rfl ?_); (try (refine gate_guard (by rfl) ?_; dsimp only)); refine bE (N := 1) (cs := #[.string a0_0, .slice A0_1 l0_1.length c0_1]) (t := 58) ?_; intro gb106 hg w3 hbox hb; have n0_ := Aside0.mk (below_step bB0 hb); have n1_ := Aside0.mk (hbox); have n2_ := Aside0.mk ((by rw [hg]; exact (below_size bB0) : w.heap.size ≤ gb106)); have n3_ := Aside0.mk ((by rw [hg]; exact (below_size bB0) : w.heap.size ≤ gb106)); clear HB; have HB := n0_; have BK106 := n1_; have GW106 := n2_; have GE106 := n3_; clear n0_ n1_ n2_ n3_; clear hb hbox hg))
 (try simp only [Act.put, List.setIfInBounds_toArray, List.set_cons_zero, List.set_cons_succ])
 go_cut [13] (fun v13 wc => ∃ (kq : Nat) (x13_1 : Bool), v13 = .bool x13_1 ∧ Aside0 (qf62.j0 kq x13_1 a0_0 l0_1 = some r) ∧ Aside0 (kq ≤ k) ∧ Aside0 (wc.heap[gb106]? = some (.cells #[.string a0_0, (.slice A0_1 l0_1.length c0_1)] 58 (0, 0))) ∧ Aside0 (Below w.heap.size w wc))
 case first =>
  have H := HC2.out
  clear HC2
  by_cases c4 : (a0_0.size : Int) > 200
  ·rw [if_pos c4] at H
   have c4b0 : decide (200 < (a0_0.size : Int)) = true := decide_eq_true c4
   have c4b1 : decide (200 < a0_0.size) = true := decide_eq_true (by omega)
   clear c4
   (first | rw [c4b0] | (simp only [i64_w, i32_w]; rw [c4b0]) | skip)
   have H' := Aside0.mk H
   clear H
   have hcz5_0 : w3.cell? ⟨gb106, 0, none⟩ = some (.string a0_0) := (blk_cell BK106.out 0).trans rfl
   have hcz5_1 : w3.cell? ⟨gb106, 1, none⟩ = some (.slice A0_1 l0_1.length c0_1) := (blk_cell BK106.out 1).trans rfl
   have hfz5_0 := blk_frozen BK106.out 0
   have hfz5_1 := blk_frozen BK106.out 1
   go_wp2
   go_meet
   case rel => exact ⟨_, (true), (by first | rfl | (simp; done) | (simp [*]; done)), H', ⟨by first | omega | exact Nat.le_refl _⟩, ⟨by refine bk ?_; exact BK106.out⟩, ⟨(bB1 GE106.out)⟩⟩
  ·rw [if_neg c4] at H
   have c4b0 : decide (200 < (a0_0.size : Int)) = false := decide_eq_false c4
   have c4b1 : decide (200 < a0_0.size) = false := decide_eq_false (by omega)
   clear c4
   (first | rw [c4b0] | (simp only [i64_w, i32_w]; rw [c4b0]) | skip)
   have H' := Aside0.mk H
   clear H
   have hcz6_0 : w3.cell? ⟨gb106, 0, none⟩ = some (.string a0_0) := (blk_cell BK106.out 0).trans rfl
   have hcz6_1 : w3.cell? ⟨gb106, 1, none⟩ = some (.slice A0_1 l0_1.length c0_1) := (blk_cell BK106.out 1).trans rfl
   have hfz6_0 := blk_frozen BK106.out 0
   have hfz6_1 := blk_frozen BK106.out 1
   go_wp2
   go_meet
   case rel => exact ⟨_, (decide ((l0_1.length : Int) > 20)), (by first | rfl | (simp; done) | (simp [*]; done)), H', ⟨by first | omega | exact Nat.le_refl _⟩, ⟨by refine bk ?_; exact BK106.out⟩, ⟨(bB1 GE106.out)⟩⟩
 case rest =>
  clear HC2
  (try clear p2); (try clear c4); (try clear c4b0); (try clear c4b1); (try clear c6); (try clear hcz5_0); (try clear hcz5_1); (try clear hcz6_0); (try clear hcz6_1); (try clear hfz5_0); (try clear hfz5_1); (try clear hfz6_0); (try clear hfz6_1)
  obtain ⟨kq, x13_1, rfl, HA, HJ1, BK106, HB⟩ := hcut
  cases kq with
  | zero => exact absurd HA.out (by simp [qf62.j0])
  | succ kj1 =>
   have H := HA.out
   clear HA
   simp only [qf62.j0] at H
   by_cases c7 : x13_1 = true
   ·subst c7
    have H1 : (some true) = some r := by rw [if_pos rfl] at H; exact H
    clear H
    have H := H1
    clear H1
    obtain rfl := Option.some.inj H
    go_wp2
    go_ret
    exact ⟨eW, (bB1 GE106.out)⟩
   ·replace c7 := Bool.eq_false_iff.mpr c7
    subst c7
    have H1 : (qf62.l0 kj1 0 a0_0 l0_1) = some r := by rw [if_neg (show ¬ (false = true) by decide)] at H; exact H
    clear H
    have H := H1
    clear H1
    have H' := Aside0.mk H
    clear H
    go_wp2
    go_loopg [3] kj1 (fun kq v3 w' => ∃ (x3_2 : Int), v3 = .int .i64 x3_2 ∧ Aside0 (qf62.l0 kq x3_2 a0_0 l0_1 = some r) ∧ Aside0 (kq ≤ kj1) ∧ Aside0 (w'.heap[gb106]? = some (.cells #[.string a0_0, (.slice A0_1 l0_1.length c0_1)] 58 (0, 0))) ∧ Aside0 (Below w.heap.size w w'))
    case atStart => exact ⟨(0), (by first | rfl | (simp; done) | (simp [*]; done)), H', ⟨Nat.le_refl _⟩, ⟨by refine bk ?_; exact BK106.out⟩, ⟨(bB1 GE106.out)⟩⟩
    case round =>
     clear H'
     (try clear p2); (try clear c4); (try clear c4b0); (try clear c4b1); (try clear c6); (try clear c7); (try clear hcz5_0); (try clear hcz5_1); (try clear hcz6_0); (try clear hcz6_1); (try clear hfz5_0); (try clear hfz5_1); (try clear hfz6_0); (try clear hfz6_1); (try clear p2)
     obtain ⟨x3_2, rfl, HA, HK2, BK106, HB⟩ := hrel
     cases gk with
     | zero => exact absurd HA.out (by simp [qf62.l0])
     | succ k2 =>
      have H := HA.out
      clear HA
      simp only [qf62.l0] at H
      by_cases c8 : x3_2 < (l0_1.length : Int)
      ·rw [if_pos c8] at H
       have c8b0 : decide (x3_2 < (l0_1.length : Int)) = true := decide_eq_true c8
       clear c8
       by_cases c9 : 0 ≤ x3_2
       ·rw [if_pos c9] at H
        have c9b0 : decide (0 ≤ x3_2) = true := decide_eq_true c9
        clear c9
        by_cases c10 : (((rd_T64 l0_1 x3_2).f2).size : Int) > 200
        ·rw [if_pos c10] at H
         have c10b0 : decide (200 < (((rd_T64 l0_1 x3_2).f2).size : Int)) = true := decide_eq_true c10
         have c10b1 : decide (200 < ((rd_T64 l0_1 x3_2).f2).size) = true := decide_eq_true (by omega)
         clear c10
         obtain rfl := Option.some.inj H
         have hcz11_0 : wr.cell? ⟨gb106, 0, none⟩ = some (.string a0_0) := (blk_cell BK106.out 0).trans rfl
         have hcz11_1 : wr.cell? ⟨gb106, 1, none⟩ = some (.slice A0_1 l0_1.length c0_1) := (blk_cell BK106.out 1).trans rfl
         have hfz11_0 := blk_frozen BK106.out 0
         have hfz11_1 := blk_frozen BK106.out 1
         have p107 : 0 ≤ (x3_2 : Int) := of_decide_eq_true (by first | (with_reducible assumption) | assumption)
         have q107 : x3_2 < (l0_1.length : Int) := of_decide_eq_true (by first | (with_reducible assumption) | assumption)
         obtain ⟨ad107, e107, hx107_0, hx107_1, hx107_2⟩ := at_T64 HR0_1.out x3_2 p107 q107
         cases e107
         replace hx107_0 := mvc HB.out hx107_0
         replace hx107_1 := mvc HB.out hx107_1
         replace hx107_2 := mvc HB.out hx107_2
         replace p107 := eq_true p107
         replace q107 := eq_true q107
         go_wp2
         go_ret
         exact ⟨eW, (bB1 GE106.out)⟩
        ·rw [if_neg c10] at H
         have c10b0 : decide (200 < (((rd_T64 l0_1 x3_2).f2).size : Int)) = false := decide_eq_false c10
         have c10b1 : decide (200 < ((rd_T64 l0_1 x3_2).f2).size) = false := decide_eq_false (by omega)
         clear c10
         have H' := Aside0.mk H
         clear H
         have hcz12_0 : wr.cell? ⟨gb106, 0, none⟩ = some (.string a0_0) := (blk_cell BK106.out 0).trans rfl
         have hcz12_1 : wr.cell? ⟨gb106, 1, none⟩ = some (.slice A0_1 l0_1.length c0_1) := (blk_cell BK106.out 1).trans rfl
         have hfz12_0 := blk_frozen BK106.out 0
         have hfz12_1 := blk_frozen BK106.out 1
         have p107 : 0 ≤ (x3_2 : Int) := of_decide_eq_true (by first | (with_reducible assumption) | assumption)
         have q107 : x3_2 < (l0_1.length : Int) := of_decide_eq_true (by first | (with_reducible assumption) | assumption)
         obtain ⟨ad107, e107, hx107_0, hx107_1, hx107_2⟩ := at_T64 HR0_1.out x3_2 p107 q107
         cases e107
         replace hx107_0 := mvc HB.out hx107_0
         replace hx107_1 := mvc HB.out hx107_1
         replace hx107_2 := mvc HB.out hx107_2
         replace p107 := eq_true p107
         replace q107 := eq_true q107
         go_wp2
         go_roundg k2
         case measure => have := HJ1.out; have := HK2.out; omega
         case rel => exact ⟨(wrap64 (x3_2 + 1)), (by first | rfl | (simp; done) | (simp [*]; done)), H', ⟨by have := HJ1.out; have := HK2.out; omega⟩, ⟨by refine bk ?_; exact BK106.out⟩, ⟨(bB1 GE106.out)⟩⟩
       ·rw [if_neg c9] at H
        exact absurd H (by simp)
      ·rw [if_neg c8] at H
       have c8b0 : decide (x3_2 < (l0_1.length : Int)) = false := decide_eq_false c8
       clear c8
       obtain rfl := Option.some.inj H
       have hcz13_0 : wr.cell? ⟨gb106, 0, none⟩ = some (.string a0_0) := (blk_cell BK106.out 0).trans rfl
       have hcz13_1 : wr.cell? ⟨gb106, 1, none⟩ = some (.slice A0_1 l0_1.length c0_1) := (blk_cell BK106.out 1).trans rfl
       have hfz13_0 := blk_frozen BK106.out 0
       have hfz13_1 := blk_frozen BK106.out 1
       go_wp2
       go_ret
       exact ⟨eW, (bB1 GE106.out)⟩
end Go.Proofs.YtghommaokdhjmaaGreat.P
/- Layer 6 (atoms and facts): what the printed functions answer, as plain functions; what a match has; texts no longer than a million bytes. -/
namespace Go.Proofs.YtghommaokdhjmaaGreat.SpecM
open Go.Shelf Go.RowKit Go.Lib Go.Sort Go.Proofs.SymP Go.Proofs.YtghommaokdhjmaaGreatW.PrintWords Go.Proofs.YtghommaokdhjmaaGreatW.PrintLast Gate P Str PSpec BothB FactC
open Go.Proofs.YtghommaokdhjmaaGreat.SpecB hiding tl_iff
theorem ff {α : Type} {a b : α} : (if false = true then a else b) = b := rfl
theorem sameV (x y : S64) : (!(x.f0 == y.f0) || (!(x.f1 == y.f1) || (!(x.f2.toList == y.f2.toList)))) = true ↔ x ≠ y := by
 obtain ⟨x0, x1, x2⟩ := x
 obtain ⟨y0, y1, y2⟩ := y
 rw [← Bool.not_and, ← Bool.not_and, Bool.not_eq_true', Bool.eq_false_iff]
 simp only [ne_eq, Bool.and_eq_true, beq_iff_eq, tl_iff, S64.mk.injEq]
instance : DecidableEq S64 := fun x y => decidable_of_iff (¬ (!(x.f0 == y.f0) || (!(x.f1 == y.f1) || (!(x.f2.toList == y.f2.toList)))) = true) (by rw [sameV]; exact Classical.not_not)
instance : DecidableEq S92 := fun x y => decidable_of_iff (x.f0 = y.f0 ∧ x.f1 = y.f1) (by obtain ⟨_, _⟩ := x; obtain ⟨_, _⟩ := y; simp)
theorem neV_iff (x y : S64) : neV x y = true ↔ x ≠ y := by
 unfold neV
 rw [← sameV, Bool.not_and, Bool.not_and]
def Fit (l : List S66) (ts : List S92) (vs : List S64) (m : List S66) : Prop :=
 chkP l = 0 ∧ chkP m = 0 ∧ (∀ p ∈ ts.zip vs, con p.1 → p.1.f1 = p.2) ∧ ∀ x, x ∈ m ↔ x ∈ l ∨ ∃ p ∈ ts.zip vs, ¬ con p.1 ∧ x = bnd p.1 p.2
theorem fit_only {l m m' : List S66} {ts : List S92} {vs : List S64} (h : Fit l ts vs m) (h' : Fit l ts vs m') : m = m' :=
 rises_only ((right_iff m).1 h.2.1).2.2 ((right_iff m').1 h'.2.1).2.2 fun x => by rw [h.2.2.2, h'.2.2.2]
theorem one_cases : ∀ (ts : List S92) (vs : List S64) (l : List S66), ts.length = vs.length → chkP l = 0 → (∃ m, oneL l ts vs = (m, true) ∧ Fit l ts vs m) ∨ (oneL l ts vs = ([], false) ∧ ∀ m, ¬ Fit l ts vs m)
 | [], vs, l, h, hl => .inl ⟨l, by rw [oneL], hl, hl, fun p hp => by simp at hp, fun x => by simp⟩
 | t :: ts, [], l, h, hl => by simp at h
 | t :: ts, v :: vs, l, h, hl => by
  have h2 : ts.length = vs.length := by simpa using h
  rw [oneL]
  by_cases hc : con t
  ·rw [if_pos hc]
   by_cases hv : t.f1 = v
   ·rw [if_neg (fun h => (neV_iff _ _).1 h hv)]
    rcases one_cases ts vs l h2 hl with ⟨m, e, hf⟩ | ⟨e, hf⟩
    ·refine .inl ⟨m, e, hf.1, hf.2.1, fun p hp hpc => ?_, fun x => ?_⟩
     ·rw [List.zip_cons_cons, List.mem_cons] at hp
      rcases hp with rfl | hp
      ·exact hv
      ·exact hf.2.2.1 p hp hpc
     ·rw [hf.2.2.2, List.zip_cons_cons]
      constructor
      ·rintro (hx | ⟨p, hp, hx⟩)
       ·exact .inl hx
       ·exact .inr ⟨p, List.mem_cons_of_mem _ hp, hx⟩
      ·rintro (hx | ⟨p, hp, hx⟩)
       ·exact .inl hx
       ·rcases List.mem_cons.1 hp with rfl | hp
        ·exact absurd hc hx.1
        ·exact .inr ⟨p, hp, hx⟩
    ·refine .inr ⟨e, fun m hm => hf m ⟨hm.1, hm.2.1, fun p hp => hm.2.2.1 p (by rw [List.zip_cons_cons]; exact List.mem_cons_of_mem _ hp), fun x => ?_⟩⟩
     rw [hm.2.2.2, List.zip_cons_cons]
     constructor
     ·rintro (hx | ⟨p, hp, hx⟩)
      ·exact .inl hx
      ·rcases List.mem_cons.1 hp with rfl | hp
       ·exact absurd hc hx.1
       ·exact .inr ⟨p, hp, hx⟩
     ·rintro (hx | ⟨p, hp, hx⟩)
      ·exact .inl hx
      ·exact .inr ⟨p, List.mem_cons_of_mem _ hp, hx⟩
   ·rw [if_pos ((neV_iff _ _).2 hv)]
    exact .inr ⟨rfl, fun m hm => hv (hm.2.2.1 (t, v) (by rw [List.zip_cons_cons]; exact List.mem_cons_self) hc)⟩
  ·rw [if_neg hc]
   rcases put_cases l (bnd t v) with ⟨m1, e1, hw⟩ | ⟨e1, hw⟩
   ·rw [e1, if_pos rfl]
    rcases one_cases ts vs m1 h2 hw.2.2.1 with ⟨m, e, hf⟩ | ⟨e, hf⟩
    ·refine .inl ⟨m, e, hl, hf.2.1, fun p hp hpc => ?_, fun x => ?_⟩
     ·rw [List.zip_cons_cons, List.mem_cons] at hp
      rcases hp with rfl | hp
      ·exact absurd hpc hc
      ·exact hf.2.2.1 p hp hpc
     ·rw [hf.2.2.2, hw.2.2.2, List.zip_cons_cons]
      constructor
      ·rintro ((hx | hx) | ⟨p, hp, hx⟩)
       ·exact .inl hx
       ·exact .inr ⟨(t, v), List.mem_cons_self, hc, hx⟩
       ·exact .inr ⟨p, List.mem_cons_of_mem _ hp, hx⟩
      ·rintro (hx | ⟨p, hp, hx⟩)
       ·exact .inl (.inl hx)
       ·rcases List.mem_cons.1 hp with rfl | hp
        ·exact .inl (.inr hx.2)
        ·exact .inr ⟨p, hp, hx⟩
    ·refine .inr ⟨e, fun m hm => hf m ⟨hw.2.2.1, hm.2.1, fun p hp => hm.2.2.1 p (by rw [List.zip_cons_cons]; exact List.mem_cons_of_mem _ hp), fun x => ?_⟩⟩
     rw [hm.2.2.2, hw.2.2.2, List.zip_cons_cons]
     constructor
     ·rintro (hx | ⟨p, hp, hx⟩)
      ·exact .inl (.inl hx)
      ·rcases List.mem_cons.1 hp with rfl | hp
       ·exact .inl (.inr hx.2)
       ·exact .inr ⟨p, hp, hx⟩
     ·rintro ((hx | hx) | ⟨p, hp, hx⟩)
      ·exact .inl hx
      ·exact .inr ⟨(t, v), List.mem_cons_self, hc, hx⟩
      ·exact .inr ⟨p, List.mem_cons_of_mem _ hp, hx⟩
   ·rw [e1]
    refine .inr ⟨rfl, fun m hm => ?_⟩
    have hin : bnd t v ∈ m := (hm.2.2.2 _).2 (.inr ⟨(t, v), by rw [List.zip_cons_cons]; exact List.mem_cons_self, hc, rfl⟩)
    refine hw (m.filter fun x => decide (x ∈ l ∨ x = bnd t v)) ⟨hl, right_at hm.2.1 hin, right_filter hm.2.1 _, fun x => ?_⟩
    rw [List.mem_filter, decide_eq_true_eq]
    constructor
    ·exact fun h => h.2
    ·intro h
     refine ⟨?_, h⟩
     rcases h with h | rfl
     ·exact (hm.2.2.2 x).2 (.inl h)
     ·exact hin
theorem one_fit {l m : List S66} {ts : List S92} {vs : List S64} (hn : ts.length = vs.length) (h : Fit l ts vs m) : oneL l ts vs = (m, true) := by
 rcases one_cases ts vs l hn h.1 with ⟨q, e, hq⟩ | ⟨_, hq⟩
 ·rw [e, fit_only hq h]
 ·exact absurd h (hq m)
theorem mat_zero {a : ByteArray} {ts : List S92} : matP a ts = 0 ↔ nameP a = true ∧ ts.length ≤ 5 ∧ ∀ t ∈ ts, termP t = true := by
 have e : ts.any wrongT = false ↔ ∀ t ∈ ts, termP t = true := by
  rw [List.any_eq_false]
  unfold wrongT
  simp only [Bool.not_eq_true', Bool.not_eq_false]
 unfold matP
 by_cases h : nameP a = true ∧ ts.length ≤ 5 ∧ ts.any wrongT = false
 ·rw [if_pos h]; exact ⟨fun _ => ⟨h.1, h.2.1, e.1 h.2.2⟩, fun _ => rfl⟩
 ·rw [if_neg h]; exact ⟨fun h => by simp at h, fun h2 => absurd ⟨h2.1, h2.2.1, e.2 h2.2.2⟩ h⟩
theorem fact_zero {a : ByteArray} {vs : List S64} : factP a vs = 0 ↔ nameP a = true ∧ vs.length ≤ 5 ∧ ∀ v ∈ vs, valP v.f0 v.f1 v.f2 = 0 := by
 have e : vs.any wrongV = false ↔ ∀ v ∈ vs, valP v.f0 v.f1 v.f2 = 0 := by
  rw [List.any_eq_false]
  unfold wrongV
  simp only [Bool.not_eq_true', Bool.not_eq_false, beq_iff_eq]
 unfold factP
 by_cases h : nameP a = true ∧ vs.length ≤ 5 ∧ vs.any wrongV = false
 ·rw [if_pos h]; exact ⟨fun _ => ⟨h.1, h.2.1, e.1 h.2.2⟩, fun _ => rfl⟩
 ·rw [if_neg h]; exact ⟨fun h => by simp at h, fun h2 => absurd ⟨h2.1, h2.2.1, e.2 h2.2.2⟩ h⟩
theorem oneP_cases (a : ByteArray) (ts : List S92) (b : ByteArray) (vs : List S64) (l : List S66) :
  (∃ m, oneP a ts b vs l = (m, true) ∧ matP a ts = 0 ∧ factP b vs = 0 ∧ a = b ∧ ts.length = vs.length ∧ Fit l ts vs m) ∨ (oneP a ts b vs l = ([], false) ∧ ∀ m, ¬ (matP a ts = 0 ∧ factP b vs = 0 ∧ a = b ∧ ts.length = vs.length ∧ Fit l ts vs m)) := by
 unfold oneP
 by_cases h : matP a ts = 0 ∧ factP b vs = 0 ∧ chkP l = 0 ∧ a = b ∧ ts.length = vs.length
 ·rw [if_pos h]
  rcases one_cases ts vs l h.2.2.2.2 h.2.2.1 with ⟨m, e, hf⟩ | ⟨e, hf⟩
  ·exact .inl ⟨m, e, h.1, h.2.1, h.2.2.2.1, h.2.2.2.2, hf⟩
  ·exact .inr ⟨e, fun m hm => hf m hm.2.2.2.2⟩
 ·rw [if_neg h]
  exact .inr ⟨rfl, fun m hm => h ⟨hm.1, hm.2.1, hm.2.2.2.2.1, hm.2.2.1, hm.2.2.2.1⟩⟩
theorem oneP_fit {a : ByteArray} {ts : List S92} {b : ByteArray} {vs : List S64} {l m : List S66} (h1 : matP a ts = 0) (h2 : factP b vs = 0) (h3 : a = b) (h4 : ts.length = vs.length) (h5 : Fit l ts vs m) : oneP a ts b vs l = (m, true) := by
 unfold oneP
 rw [if_pos ⟨h1, h2, h5.1, h3, h4⟩]
 exact one_fit h4 h5
theorem fit_fit {l m : List S66} {ts : List S92} {vs : List S64} (h : Fit l ts vs m) (fl : fitB l = true) (ft : fitT ts = true) (fv : fitV vs = true) : fitB m = true := fit_mem.2 fun x hx => by
 rcases (h.2.2.2 x).1 hx with hx | ⟨p, hp, _, rfl⟩
 ·exact fit_mem.1 fl x hx
 ·exact ⟨(fitT_mem.1 ft _ (List.of_mem_zip hp).1).1, fitV_mem.1 fv _ (List.of_mem_zip hp).2⟩
def grL (l : List S66) : List S92 → Option (List S64)
 | [] => some []
 | t :: ts => if con t then (grL l ts).map fun r => t.f1 :: r else if (getP l t.f0).2.2.2 = true then (grL l ts).map fun r => (⟨(getP l t.f0).1, (getP l t.f0).2.1, (getP l t.f0).2.2.1⟩ : S64) :: r else none
def groundP (a : ByteArray) (ts : List S92) (l : List S66) : ByteArray × List S64 × Int :=
 if matP a ts = 0 then (if chkP l = 0 then (match grL l ts with | some r => (a, r, 0) | none => ((⟨#[]⟩ : ByteArray), [], 5)) else ((⟨#[]⟩ : ByteArray), [], chkP l)) else ((⟨#[]⟩ : ByteArray), [], matP a ts)
def varsL : List ByteArray → List S92 → List ByteArray
 | acc, [] => acc
 | acc, t :: ts => if con t then varsL acc ts else if (acc.any fun x => decide (t.f0 = x)) = true then varsL acc ts else varsL (acc ++ [t.f0]) ts
theorem ev_contains {l : List ByteArray} (hl : l.length ≤ 1000000) (s : ByteArray) : Ev (fun k => slices_Contains_string_string.f k l s) (l.any fun x => decide (s = x)) := by
 unfold slices_Contains_string_string.f slices_Index_string_string.f
 obtain ⟨r, h1, h2⟩ := index_loop l s hl l.length 0 (by omega)
 rw [List.drop_zero] at h2
 rw [← h2]
 exact Ev.bind h1 (Ev.now _)
theorem vars_loop (ts : List S92) (hl : ts.length ≤ 1000000) : ∀ (m i : Nat), i + m = ts.length → ∀ acc : List ByteArray, acc.length ≤ i → Ev (fun k => match_Vars.l0 k acc ts (ts.length : Int) i) (varsL acc (ts.drop i)) := by
 intro m
 induction m with
 | zero =>
  intro i h acc _
  refine Ev.step (fun k => by rw [match_Vars.l0, if_neg (by omega)]) ?_
  rw [List.drop_eq_nil_of_le (by omega), varsL]
  exact Ev.now _
 | succ m ih =>
  intro i h acc ha
  have hi : i < ts.length := by omega
  refine Ev.step (fun k => by rw [match_Vars.l0, if_pos (by omega), if_pos (by omega), if_pos (by omega), rdT_get hi, w64 hl hi]) ?_
  rw [List.drop_eq_getElem_cons hi, varsL]
  by_cases hc : con ts[i]
  ·simp only [if_pos hc, if_pos (show ts[i].f0.toList = [] from hc)]
   exact ih (i + 1) (by omega) acc (by omega)
  ·simp only [if_neg hc, if_neg (show ¬ ts[i].f0.toList = [] from hc)]
   refine Ev.bind (ev_contains (by omega) ts[i].f0) ?_
   by_cases hx : (acc.any fun x => decide (ts[i].f0 = x)) = true
   ·simp only [if_pos hx]
    exact ih (i + 1) (by omega) acc (by omega)
   ·simp only [if_neg hx, if_pos (show acc.length < 8796093022208 by omega)]
    exact ih (i + 1) (by omega) (acc ++ [ts[i].f0]) (by simp; omega)
theorem ev_vars (a : ByteArray) {ts : List S92} (hl : ts.length ≤ 1000000) : Ev (fun k => match_Vars.f k a ts) (varsL [] ts) := by
 unfold match_Vars.f
 exact vars_loop ts hl ts.length 0 (by omega) [] (by simp)
theorem heavyA_loop (ts : List S92) (nm : ByteArray) (hl : ts.length ≤ 1000000) : ∀ (m i : Nat), i + m = ts.length → Ev (fun k => qf29.l0 k i nm ts) ((ts.drop i).any fun t => decide (200 < t.f0.size) || decide (200 < t.f1.f2.size)) := by
 intro m
 induction m with
 | zero =>
  intro i h
  refine Ev.step (fun k => by rw [qf29.l0, if_neg (by omega)]) ?_
  rw [List.drop_eq_nil_of_le (by omega)]
  exact Ev.now _
 | succ m ih =>
  intro i h
  have hi : i < ts.length := by omega
  refine Ev.step (fun k => by rw [qf29.l0, if_pos (by omega), if_pos (by omega), rdT_get hi, w64 hl hi]) ?_
  rw [List.drop_eq_getElem_cons hi, List.any_cons]
  by_cases h1 : 200 < ts[i].f0.size
  ·simp only [if_pos (show (ts[i].f0.size : Int) > 200 by omega), decide_eq_true h1, Bool.true_or]; exact Ev.now _
  ·by_cases h2 : 200 < ts[i].f1.f2.size
   ·simp only [if_neg (show ¬ (ts[i].f0.size : Int) > 200 by omega), if_pos (show (ts[i].f1.f2.size : Int) > 200 by omega), decide_eq_true h2, Bool.true_or, Bool.or_true]; exact Ev.now _
   ·simp only [if_neg (show ¬ (ts[i].f0.size : Int) > 200 by omega), if_neg (show ¬ (ts[i].f1.f2.size : Int) > 200 by omega), decide_eq_false h1, decide_eq_false h2, Bool.false_or]; exact ih (i + 1) (by omega)
theorem ev_heavyA (a : ByteArray) (ts : List S92) : ∃ b, Ev (fun k => qf29.f k a ts) b ∧ (b = false → a.size ≤ 200 ∧ ts.length ≤ 20 ∧ ∀ t ∈ ts, t.f0.size ≤ 200 ∧ t.f1.f2.size ≤ 200) := by
 have jt : Ev (fun k => qf29.j0 k true a ts) true := Ev.step (fun k => by rw [qf29.j0, if_pos rfl]) (Ev.now _)
 unfold qf29.f
 by_cases h1 : (a.size : Int) > 200
 ·exact ⟨true, by simp only [if_pos h1]; exact jt, fun h => by cases h⟩
 ·simp only [if_neg h1]
  by_cases h2 : (ts.length : Int) > 20
  ·exact ⟨true, by rw [decide_eq_true h2]; exact jt, fun h => by cases h⟩
  ·refine ⟨ts.any fun t => decide (200 < t.f0.size) || decide (200 < t.f1.f2.size), ?_, fun h => ⟨by omega, by omega, fun t ht => ?_⟩⟩
   ·rw [decide_eq_false h2]
    refine Ev.step (fun k => by rw [qf29.j0, if_neg (by decide)]) ?_
    exact heavyA_loop ts a (by omega) ts.length 0 (by omega)
   ·have h3 := List.any_eq_false.1 h t ht
    simp only [Bool.or_eq_true, decide_eq_true_eq, not_or] at h3
    omega
theorem heavyF_loop (vs : List S64) (nm : ByteArray) (hl : vs.length ≤ 1000000) : ∀ (m i : Nat), i + m = vs.length → Ev (fun k => qf62.l0 k i nm vs) ((vs.drop i).any fun v => decide (200 < v.f2.size)) := by
 intro m
 induction m with
 | zero =>
  intro i h
  refine Ev.step (fun k => by rw [qf62.l0, if_neg (by omega)]) ?_
  rw [List.drop_eq_nil_of_le (by omega)]
  exact Ev.now _
 | succ m ih =>
  intro i h
  have hi : i < vs.length := by omega
  refine Ev.step (fun k => by rw [qf62.l0, if_pos (by omega), if_pos (by omega), rdV_get hi, w64 hl hi]) ?_
  rw [List.drop_eq_getElem_cons hi, List.any_cons]
  by_cases h1 : 200 < vs[i].f2.size
  ·simp only [if_pos (show (vs[i].f2.size : Int) > 200 by omega), decide_eq_true h1, Bool.true_or]; exact Ev.now _
  ·simp only [if_neg (show ¬ (vs[i].f2.size : Int) > 200 by omega), decide_eq_false h1, Bool.false_or]; exact ih (i + 1) (by omega)
theorem ev_heavyF (a : ByteArray) (vs : List S64) : ∃ b, Ev (fun k => qf62.f k a vs) b ∧ (b = false → a.size ≤ 200 ∧ vs.length ≤ 20 ∧ ∀ v ∈ vs, v.f2.size ≤ 200) := by
 have jt : Ev (fun k => qf62.j0 k true a vs) true := Ev.step (fun k => by rw [qf62.j0, if_pos rfl]) (Ev.now _)
 unfold qf62.f
 by_cases h1 : (a.size : Int) > 200
 ·exact ⟨true, by simp only [if_pos h1]; exact jt, fun h => by cases h⟩
 ·simp only [if_neg h1]
  by_cases h2 : (vs.length : Int) > 20
  ·exact ⟨true, by rw [decide_eq_true h2]; exact jt, fun h => by cases h⟩
  ·refine ⟨vs.any fun v => decide (200 < v.f2.size), ?_, fun h => ⟨by omega, by omega, fun v hv => ?_⟩⟩
   ·rw [decide_eq_false h2]
    refine Ev.step (fun k => by rw [qf62.j0, if_neg (by decide)]) ?_
    exact heavyF_loop vs a (by omega) vs.length 0 (by omega)
   ·have h3 := List.any_eq_false.1 h v hv
    simp only [decide_eq_true_eq] at h3
    omega
end Go.Proofs.YtghommaokdhjmaaGreat.SpecM
