/- A part of the proof: walks of the code and plain laws, printed and by hand; no condition. -/
import Derived.Test.YtghommaokdhjmaaGreatEYB1
import Derived.Maps.AppendAt
import Derived.Lib.AppendZeros
import Derived.Deep.AppendLies
import Derived.Deep.RegionHeld3
import Derived.Shelf.Sort.Plain
import Derived.Shelf.Slices.In.SortNone
import Derived.Shelf.Slices.CompactS
import Derived.Sort.OwnSorted
import Derived.Sort.Grow
set_option linter.unusedVariables false
set_option linter.unusedSimpArgs false
/- Rows of ints of the call's own: read, appended to; in a region that draws too. -/
namespace Go.Proofs.YtghommaokdhjmaaGreat.IRow
open Go.RowKit Go.Lib Go.Proofs.YtghommaokdhjmaaGreatW.PrintWords P
def IRow (W : World) (b : Nat) (v : Value) (xs : List Int) : Prop := W.ownsRow b 3 1 v xs.length (xs.map (Value.int .i64))
theorem IRow.start (W : World) (b : Nat) : IRow W b (.slice none ([] : List Int).length 0) [] := own_nil W b _ 1
theorem IRow.below {W W' : World} {b : Nat} {v : Value} {xs : List Int} (h : IRow W b v xs) (hb : Go.RowKit.Below W.heap.size W W') : IRow W' b v xs := own_move h (fun k hk => hb.block k (own_lt h k hk))
theorem IRow.other {W W' : World} {b : Nat} {v : Value} {xs : List Int} {row : Option Nat} (h : IRow W b v xs) (hg : W.grownBy W' row) (hn : ∀ k, v.ownBlock = some k → row ≠ some k) : IRow W' b v xs := own_move h (fun k hk => hg.block k (own_lt h k hk) (fun e => hn k hk e.symm))
theorem IRow.at {W : World} {b : Nat} {A : Option Addr} {n c : Nat} {xs : List Int} (h : IRow W b (.slice A n c) xs) : n = xs.length ∧ n ≤ c ∧ (0 < n → ∃ g, A = some ⟨g, 0, none⟩ ∧ b ≤ g ∧ ∀ i (hi : i < xs.length), W.cell? ⟨g, i, none⟩ = some (.int .i64 xs[i])) := by
 rcases h.2 with ⟨e, h0⟩ | ⟨g, cap, cur, e, hb, hg, hn, hm, hs, ht⟩
 ·injection e with e1 e2 e3
  subst e1 e2 e3
  exact ⟨h0.symm, Nat.le_refl _, fun h => absurd h (Nat.lt_irrefl _)⟩
 ·injection e with e1 e2 e3
  subst e1 e2 e3
  refine ⟨rfl, hn, fun _ => ⟨g, rfl, hb, fun i hi => ?_⟩⟩
  rw [blk_cell hg i, ← Array.getElem?_toList]
  have h1 : (cur.toList.take (xs.length * 1))[i]? = (xs.map (Value.int .i64))[i]? := by rw [ht]
  rw [List.getElem?_take_of_lt (by omega), List.getElem?_map, List.getElem?_eq_getElem hi] at h1
  exact h1
theorem appendI {W : World} (b : Nat) (u : Value) (xs : List Int) (x : Int) (ad : Addr) (h : IRow W b u xs) (hx : W.cell? ad = some (.int .i64 x)) (hb : b ≤ W.heap.size) (hl : xs.length ≤ 1000000) :
  ∃ A' c' w', (∀ ty, (Builtin.append_ #[80, 80] ty #[u, .slice (some ad) 1 1]).run Tryz.prog W = .ok (.slice A' (xs.length + 1) c') w') ∧ IRow w' b (.slice A' (xs.length + 1) c') (xs ++ [x]) ∧ Go.RowKit.Below b W w' ∧ W.grownBy w' u.ownBlock ∧ ((Value.slice A' (xs.length + 1) c').ownBlock = u.ownBlock ∨ (Value.slice A' (xs.length + 1) c').ownBlock = some W.heap.size) := by
 have hi := info3
 rcases hinf : Tryz.prog.info? 3 with _ | i
 ·rw [hinf] at hi; cases hi
 ·rw [hinf] at hi
  have hi2 := Option.some.inj hi
  injection hi2 with hz hi3
  injection hi3 with hsz hby
  have ht : Tryz.prog.underlying 80 = some (.slice 3) := Tryz.underlying80
  obtain ⟨u', w', hr, ho, hg, _, hat⟩ := run_append_own_at (P := Tryz.prog) W b 80 0 3 i _ 1 8 ht hinf hz hsz hby (by rfl) (by decide) u xs.length (xs.map (Value.int .i64)) h ad 1 1 [.int .i64 x] rfl (fun j v hv => by
   rcases j with _ | j
   ·obtain rfl : Value.int .i64 x = v := by simpa using hv
    rw [Addr.add_zero']; exact hx
   ·simp at hv) (fun v hv => by rw [List.mem_singleton.1 hv]; rfl) (by unfold maxLen; omega) (by omega) hb
  obtain ⟨A', c', rfl⟩ := own_slice ho
  refine ⟨A', c', w', fun ty => hr, ?_, (Go.RowKit.Below.refl b W).grown hg hb (fun k hk => (h.lt k hk).1), hg, hat⟩
  unfold IRow
  rw [List.length_append, List.length_singleton, List.map_append]
  exact ho
theorem append_kept {W : World} (b : Nat) (u : Value) (xs : List Int) (x : Int) (ad : Addr) (h : IRow W b u xs) (hx : W.cell? ad = some (.int .i64 x)) (hl : xs.length ≤ 1000000) {ty : TypeId} {v' : Value} {w' : World}
  (hr : (Builtin.append_ #[80, 80] ty #[u, .slice (some ad) 1 1]).run Tryz.prog W = .ok v' w') (g i : Nat) (hg : u.ownBlock = some g) (hi : i < xs.length) : w'.cell? ⟨g, i, none⟩ = some (.int .i64 xs[i]) := by
 have hin := info3
 rcases hinf : Tryz.prog.info? 3 with _ | inf
 ·rw [hinf] at hin; cases hin
 ·rw [hinf] at hin
  simp only [Option.map_some, Option.some.injEq, Prod.mk.injEq] at hin
  obtain ⟨hz, hsz, hby⟩ := hin
  have ht : Tryz.prog.underlying 80 = some (.slice 3) := Tryz.underlying80
  have hnews : ∀ (j : Nat) (v : Value), [Value.int .i64 x][j]? = some v → W.cell? (ad.add j) = some v := fun j v hv => by
   rcases j with _ | j
   ·obtain rfl : Value.int .i64 x = v := by simpa using hv
    rw [Addr.add_zero']; exact hx
   ·simp at hv
  rcases h.2 with ⟨rfl, _⟩ | ⟨g', cap, cur, rfl, hb, hh, hn, hm, hs, htk⟩
  ·simp [Value.ownBlock] at hg
  ·obtain rfl : g' = g := by simpa [Value.ownBlock] using hg
   have hat : ∀ (j : Nat) (hj : j < xs.length), W.cell? ⟨g', j, none⟩ = some (.int .i64 xs[j]) := fun j hj => by
    obtain ⟨_, _, h3⟩ := IRow.at h
    obtain ⟨g2, e2, _, h4⟩ := h3 (by omega)
    obtain rfl : g2 = g' := (congrArg Addr.block (Option.some.inj e2)).symm
    exact h4 j hj
   by_cases hroom : xs.length + 1 ≤ cap
   ·have hr2 := run_append_room (P := Tryz.prog) W 80 ty 3 inf ht hinf g' xs.length cap cur hh ad 1 1 [.int .i64 x] (by rw [hsz]; rfl) hnews (fun v hv => by rw [List.mem_singleton.1 hv]; rfl) hroom (by rw [hsz]; simp only [List.length_singleton]; omega)
    obtain rfl := (Result.ok.inj (hr2.symm.trans hr)).2
    rw [blk_cell (setRow_heap W g' cur _ _ _ hh) i, ← Array.getElem?_toList]
    have h1 := hat i hi
    rw [blk_cell hh i, ← Array.getElem?_toList] at h1
    rw [hsz]
    simp only [List.append_assoc]
    rw [List.getElem?_append_left (by simp only [List.length_take, Array.length_toList]; omega), List.getElem?_take_of_lt (by omega)]
    exact h1
   ·have hr2 := run_append_grow (P := Tryz.prog) W 80 ty 3 inf _ ht hinf hz ⟨g', 0, none⟩ xs.length cap (xs.map (Value.int .i64)) (by rw [hsz, List.length_map, Nat.mul_one]) (fun j v hv => by
     rw [List.getElem?_map] at hv
     rcases hj : xs[j]? with _ | z
     ·rw [hj] at hv; cases hv
     ·rw [hj] at hv
      obtain ⟨hj2, hj3⟩ := List.getElem?_eq_some_iff.1 hj
      obtain rfl : Value.int .i64 z = v := by simpa using hv
      rw [← hj3, Addr.add_lit, Nat.zero_add]
      exact hat j hj2) ad 1 1 [.int .i64 x] (by rw [hsz]; rfl) hnews (by omega) (by omega) (growslice_fits (by omega) (by rw [hby]; omega))
    obtain rfl := (Result.ok.inj (hr2.symm.trans hr)).2
    exact ((Go.RowKit.Below.refl _ W).drew.alloc (Nat.le_refl _) _ |>.cell (World.block_lt_of_cell? _ _ (hat i hi))).trans (hat i hi)
structure Two (W : World) (b : Nat) (v1 v2 : Value) (xs ys : List Int) : Prop where
 r1 : IRow W b v1 xs
 r2 : IRow W b v2 ys
 apart : ∀ k, v1.ownBlock = some k → v2.ownBlock ≠ some k
theorem Two.symm {W : World} {b : Nat} {v1 v2 : Value} {xs ys : List Int} (h : Two W b v1 v2 xs ys) : Two W b v2 v1 ys xs := ⟨h.r2, h.r1, fun k h1 h2 => h.apart k h2 h1⟩
theorem Two.below {W W' : World} {b : Nat} {v1 v2 : Value} {xs ys : List Int} (h : Two W b v1 v2 xs ys) (hb : Go.RowKit.Below W.heap.size W W') : Two W' b v1 v2 xs ys := ⟨h.r1.below hb, h.r2.below hb, h.apart⟩
def Kept (W w' : World) (u : Value) (xs : List Int) : Prop := (∀ a v, W.cell? a = some v → u.ownBlock ≠ some a.block → w'.cell? a = some v) ∧ ∀ g i (hi : i < xs.length), u.ownBlock = some g → w'.cell? ⟨g, i, none⟩ = some (.int .i64 xs[i])
theorem append2 {W : World} (b : Nat) (v1 v2 : Value) (xs ys : List Int) (n : Nat) (x : Int) (ad : Addr) (h : Two W b v1 v2 xs ys) (hn : xs.length = n) (hx : W.cell? ad = some (.int .i64 x)) (hb : b ≤ W.heap.size) (hl : n ≤ 1000000) :
  ∃ A' c' w', (∀ ty, (Builtin.append_ #[80, 80] ty #[v1, .slice (some ad) 1 1]).run Tryz.prog W = .ok (.slice A' (n + 1) c') w') ∧ Two w' b (.slice A' (n + 1) c') v2 (xs ++ [x]) ys ∧ Go.RowKit.Below b W w' ∧ Kept W w' v1 xs := by
 subst hn
 obtain ⟨A', c', w', happ, h1, h2, h3, h4⟩ := appendI b v1 xs x ad h.r1 hx hb hl
 refine ⟨A', c', w', happ, ⟨h1, h.r2.other h3 (fun k hk e => h.apart k e hk), fun k hk hk2 => ?_⟩, h2, fun a v ha hne => (h3.cell_far a (World.block_lt_of_cell? _ _ ha) (fun e => hne e.symm)).trans ha, fun g i hi hg => append_kept b v1 xs x ad h.r1 hx hl (happ 80) g i hg hi⟩
 rcases h4 with h4 | h4
 ·exact h.apart k (h4.symm.trans hk) hk2
 ·rw [hk] at h4
  injection h4 with h4
  subst h4
  exact Nat.lt_irrefl _ (own_lt h.r2 _ hk2)
section
variable {P : Program} {ops : Array Oper} {o : Oper} {a : Act} {Q : Exit → Act → World → Prop} {K : Act → World → Prop}
theorem step_append2 {W : World} (b : Nat) (hw : Region.wanted o (yielded ops a.tmps) = true) (s x : Operand) (ho : o.op = .call { callee := .builtin .append, args := #[s, x], argTypes := #[80, 80] }) (v1 v2 : Value) (xs ys : List Int) (n : Nat) (val : Int) (ad : Addr) (hs : a.eval s = v1) (hx : a.eval x = .slice (some ad) 1 1)
  (hI : Two W b v1 v2 xs ys) (hn : xs.length = n) (hc : W.cell? ad = some (.int .i64 val)) (hb : b ≤ W.heap.size) (hl : n ≤ 1000000)
  (h : ∀ A' c' w', Two w' b (.slice A' (n + 1) c') v2 (xs ++ [val]) ys → Go.RowKit.Below b W w' → Kept W w' v1 xs → K (a.put o.dst (.slice A' (n + 1) c')) w') :
  if Region.wanted o (yielded ops a.tmps) = true then Oper.wp Tryz.prog o a W K Q else K (a.put o.dst undef) W := by
 rw [if_pos hw]
 obtain ⟨A', c', w', happ, h1, h2, h3⟩ := append2 b v1 v2 xs ys n val ad hI hn hc hb hl
 exact Lib.wp_append_run W s x _ _ ho v1 _ hs hx _ w' (happ _) (h A' c' w' h1 h2 h3)
end
end Go.Proofs.YtghommaokdhjmaaGreat.IRow
/- What a formula says, plainly: the rows of its nodes; a node on it, two below a node. -/
namespace Go.Proofs.YtghommaokdhjmaaGreat.PSat
open Go.RowKit P
def onceR (f : Nat → Bool) : Nat → Bool
 | 0 => f 0
 | p + 1 => onceR f p || f (p + 1)
def alwaysR (f : Nat → Bool) : Nat → Bool
 | 0 => f 0
 | p + 1 => f (p + 1) && alwaysR f p
def sinceR (a b : Nat → Bool) : Nat → Bool
 | 0 => b 0
 | p + 1 => b (p + 1) || (sinceR a b p && a (p + 1))
def beforeR (a : Nat → Bool) : Nat → Bool
 | 0 => false
 | p + 1 => a p
def opR (k : Int) (a b : Nat → Bool) : Nat → Bool :=
 if k = 2 then fun p => !a p else if k = 3 then fun p => a p && b p else if k = 4 then fun p => a p || b p
 else if k = 5 then beforeR a else if k = 6 then onceR a else if k = 7 then alwaysR a else sinceR a b
def getR (rows : List (Nat → Bool)) (z : Int) : Nat → Bool := rows.getD z.toNat (fun _ => false)
section
variable (ev : S25 → Nat → Bool)
def rowOf (rows : List (Nat → Bool)) (x : S62) : Nat → Bool := if x.f0 = 1 then ev x.f1 else opR x.f0 (getR rows x.f2) (getR rows x.f3)
def rowsF (rows : List (Nat → Bool)) (l : List S62) : List (Nat → Bool) := l.foldl (fun rows x => rows ++ [rowOf ev rows x]) rows
def rowsP (l : List S62) : List (Nat → Bool) := rowsF ev [] l
def semP (l : List S62) (i : Nat) : Bool := getR (rowsP ev l) ((l.length : Int) - 1) i
theorem rowsF_cons (rows : List (Nat → Bool)) (x : S62) (l : List S62) : rowsF ev rows (x :: l) = rowsF ev (rows ++ [rowOf ev rows x]) l := rfl
theorem rowsF_append (rows : List (Nat → Bool)) (l m : List S62) : rowsF ev rows (l ++ m) = rowsF ev (rowsF ev rows l) m := by unfold rowsF; rw [List.foldl_append]
theorem rowsF_length (l : List S62) : ∀ rows, (rowsF ev rows l).length = rows.length + l.length := by
 induction l with
 | nil => intro rows; rfl
 | cons x l ih => intro rows; rw [rowsF_cons, ih]; simp; omega
theorem rowsP_length (l : List S62) : (rowsP ev l).length = l.length := by unfold rowsP; rw [rowsF_length]; simp
theorem rowsP_snoc (l : List S62) (x : S62) : rowsP ev (l ++ [x]) = rowsP ev l ++ [rowOf ev (rowsP ev l) x] := by unfold rowsP; rw [rowsF_append]; rfl
theorem getR_last (rows : List (Nat → Bool)) (f : Nat → Bool) (n : Nat) (h : rows.length = n) : getR (rows ++ [f]) (n : Int) = f := by unfold getR; subst h; simp
theorem getR_left (a b : List (Nat → Bool)) (z : Int) (h : z < a.length) (h1 : 0 < a.length) : getR (a ++ b) z = getR a z := by
 unfold getR
 rw [List.getD_eq_getElem?_getD, List.getD_eq_getElem?_getD, List.getElem?_append_left (by omega)]
def two (k : Int) : Prop := k = 3 ∨ k = 4 ∨ k = 8
instance (k : Int) : Decidable (two k) := by unfold two; infer_instance
def inN (x : S62) (j : Nat) : Prop := (x.f0 ≠ 1 → 0 ≤ x.f2 ∧ x.f2 < j) ∧ (two x.f0 → 0 ≤ x.f3 ∧ x.f3 < j) ∧ 1 ≤ x.f0 ∧ x.f0 ≤ 8
def inL (l : List S62) : Prop := ∀ j (h : j < l.length), inN l[j] j
end
end Go.Proofs.YtghommaokdhjmaaGreat.PSat
namespace Go.Proofs.YtghommaokdhjmaaGreat.P
open Go.RowKit Go.Proofs.YtghommaokdhjmaaGreatW.PrintWords Go.Proofs.YtghommaokdhjmaaGreatW.PrintLast Gate
def formula_Arms.j0 : Nat → Int → Bool → Option (Int)
 | 0, _, _ => none
 | k + 1, x3, x6 => if x6 = true then (some 1) else (if x3 = 3 then (some 2) else (if x3 = 4 then (some 2) else (if x3 = 8 then (some 2) else (some (-1)))))
def formula_Arms.f (k : Nat) (a0 : Int) : Option (Int) := if a0 = 1 then (some 0) else (if a0 = 2 then (formula_Arms.j0 k a0 (a0 == 2)) else (if a0 = 5 then (formula_Arms.j0 k a0 (a0 == 5)) else (if a0 = 6 then (formula_Arms.j0 k a0 (a0 == 6)) else (formula_Arms.j0 k a0 (a0 == 7)))))
set_option maxHeartbeats 8000000 in
set_option maxRecDepth 100000 in
theorem formula_Arms.calls (k : Nat) (a0 : Int) (r : Int) (w : World) (h : formula_Arms.f k a0 = some r) :
  Calls Tryz.prog 94 #[.int .i64 a0] w fun e w' => e = .returned (.int .i64 r) ∧ Drawn0 w w' := by
 have H : (if a0 = 1 then (some 0) else (if a0 = 2 then (formula_Arms.j0 k a0 (a0 == 2)) else (if a0 = 5 then (formula_Arms.j0 k a0 (a0 == 5)) else (if a0 = 6 then (formula_Arms.j0 k a0 (a0 == 6)) else (formula_Arms.j0 k a0 (a0 == 7)))))) = some r := h
 clear h
 by_cases c2 : a0 = 1
 ·rw [if_pos c2] at H
  have c2b0 : (a0 == 1) = true := beq_iff_eq.mpr c2
  have c2b1 : (a0 != 1) = false := bne_eq_false_iff_eq.mpr c2
  clear c2
  obtain rfl := Option.some.inj H
  go_enter Tryz.func94, Tryz.ntmps94
  go_wp2
  go_ret
  exact drz
 ·rw [if_neg c2] at H
  have c2b0 : (a0 == 1) = false := beq_eq_false_iff_ne.mpr c2
  have c2b1 : (a0 != 1) = true := bne_iff_ne.mpr c2
  have HC3 := Aside0.mk H
  clear H
  go_enter Tryz.func94, Tryz.ntmps94
  go_upto_if 6 with (fail)
  go_cut [6] (fun v6 wc => ∃ (kq : Nat) (x6_2 : Bool), v6 = .bool x6_2 ∧ Aside0 (formula_Arms.j0 kq a0 x6_2 = some r) ∧ Aside0 (kq ≤ k) ∧ Drawn0 w wc)
  case first =>
   have H := HC3.out
   clear HC3
   by_cases c4 : a0 = 2
   ·rw [if_pos c4] at H
    have c4b0 : (a0 == 2) = true := beq_iff_eq.mpr c4
    have c4b1 : (a0 != 2) = false := bne_eq_false_iff_eq.mpr c4
    clear c4
    (first | rw [c4b0] | (simp only [i64_w, i32_w]; rw [c4b0]) | skip)
    have H' := Aside0.mk H
    clear H
    go_wp2
    go_meet
    case rel => exact ⟨_, ((a0 == 2)), (by first | rfl | (simp; done) | (simp [*]; done)), H', ⟨by first | omega | exact Nat.le_refl _⟩, by repeat (first | exact Drawn0.refl _ | apply Drawn0.step)⟩
   ·rw [if_neg c4] at H
    have c4b0 : (a0 == 2) = false := beq_eq_false_iff_ne.mpr c4
    have c4b1 : (a0 != 2) = true := bne_iff_ne.mpr c4
    (first | rw [c4b0] | (simp only [i64_w, i32_w]; rw [c4b0]) | skip)
    by_cases c5 : a0 = 5
    ·rw [if_pos c5] at H
     have c5b0 : (a0 == 5) = true := beq_iff_eq.mpr c5
     have c5b1 : (a0 != 5) = false := bne_eq_false_iff_eq.mpr c5
     clear c5
     have H' := Aside0.mk H
     clear H
     go_wp2
     go_meet
     case rel => exact ⟨_, ((a0 == 5)), (by first | rfl | (simp; done) | (simp [*]; done)), H', ⟨by first | omega | exact Nat.le_refl _⟩, by repeat (first | exact Drawn0.refl _ | apply Drawn0.step)⟩
    ·rw [if_neg c5] at H
     have c5b0 : (a0 == 5) = false := beq_eq_false_iff_ne.mpr c5
     have c5b1 : (a0 != 5) = true := bne_iff_ne.mpr c5
     by_cases c6 : a0 = 6
     ·rw [if_pos c6] at H
      have c6b0 : (a0 == 6) = true := beq_iff_eq.mpr c6
      have c6b1 : (a0 != 6) = false := bne_eq_false_iff_eq.mpr c6
      clear c6
      have H' := Aside0.mk H
      clear H
      go_wp2
      go_meet
      case rel => exact ⟨_, ((a0 == 6)), (by first | rfl | (simp; done) | (simp [*]; done)), H', ⟨by first | omega | exact Nat.le_refl _⟩, by repeat (first | exact Drawn0.refl _ | apply Drawn0.step)⟩
     ·rw [if_neg c6] at H
      have c6b0 : (a0 == 6) = false := beq_eq_false_iff_ne.mpr c6
      have c6b1 : (a0 != 6) = true := bne_iff_ne.mpr c6
      have H' := Aside0.mk H
      clear H
      go_wp2
      go_meet
      case rel => exact ⟨_, ((a0 == 7)), (by first | rfl | (simp; done) | (simp [*]; done)), H', ⟨by first | omega | exact Nat.le_refl _⟩, by repeat (first | exact Drawn0.refl _ | apply Drawn0.step)⟩
  case rest =>
   clear HC3
   (try clear c2); (try clear c2b0); (try clear c2b1); (try clear p2); (try clear c4); (try clear c4b0); (try clear c4b1); (try clear c5); (try clear c5b0); (try clear c5b1); (try clear c6); (try clear c6b0); (try clear c6b1)
   obtain ⟨kq, x6_2, rfl, HA, HJ2, ⟨mc2, rfl⟩⟩ := hcut
   cases kq with
   | zero => exact absurd HA.out (by simp [formula_Arms.j0])
   | succ kj2 =>
    have H := HA.out
    clear HA
    simp only [formula_Arms.j0] at H
    by_cases c7 : x6_2 = true
    ·subst c7
     have H1 : (some 1) = some r := by rw [if_pos rfl] at H; exact H
     clear H
     have H := H1
     clear H1
     obtain rfl := Option.some.inj H
     go_wp2
     go_ret
     exact drz
    ·replace c7 := Bool.eq_false_iff.mpr c7
     subst c7
     have H1 : (if a0 = 3 then (some 2) else (if a0 = 4 then (some 2) else (if a0 = 8 then (some 2) else (some (-1))))) = some r := by rw [if_neg (show ¬ (false = true) by decide)] at H; exact H
     clear H
     have H := H1
     clear H1
     by_cases c8 : a0 = 3
     ·rw [if_pos c8] at H
      have c8b0 : (a0 == 3) = true := beq_iff_eq.mpr c8
      have c8b1 : (a0 != 3) = false := bne_eq_false_iff_eq.mpr c8
      clear c8
      obtain rfl := Option.some.inj H
      go_wp2
      go_ret
      exact drz
     ·rw [if_neg c8] at H
      have c8b0 : (a0 == 3) = false := beq_eq_false_iff_ne.mpr c8
      have c8b1 : (a0 != 3) = true := bne_iff_ne.mpr c8
      by_cases c9 : a0 = 4
      ·rw [if_pos c9] at H
       have c9b0 : (a0 == 4) = true := beq_iff_eq.mpr c9
       have c9b1 : (a0 != 4) = false := bne_eq_false_iff_eq.mpr c9
       clear c9
       obtain rfl := Option.some.inj H
       go_wp2
       go_ret
       exact drz
      ·rw [if_neg c9] at H
       have c9b0 : (a0 == 4) = false := beq_eq_false_iff_ne.mpr c9
       have c9b1 : (a0 != 4) = true := bne_iff_ne.mpr c9
       by_cases c10 : a0 = 8
       ·rw [if_pos c10] at H
        have c10b0 : (a0 == 8) = true := beq_iff_eq.mpr c10
        have c10b1 : (a0 != 8) = false := bne_eq_false_iff_eq.mpr c10
        clear c10
        obtain rfl := Option.some.inj H
        go_wp2
        go_ret
        exact drz
       ·rw [if_neg c10] at H
        have c10b0 : (a0 == 8) = false := beq_eq_false_iff_ne.mpr c10
        have c10b1 : (a0 != 8) = true := bne_iff_ne.mpr c10
        obtain rfl := Option.some.inj H
        go_wp2
        go_ret
        exact drz
def formula_empty.f (a0_0 : ByteArray) (l0_1 : List (S92)) : Option (Bool) := if a0_0.toList = ([] : List UInt8) then (some ((l0_1.length : Int) == 0)) else (some false)
set_option maxHeartbeats 8000000 in
set_option maxRecDepth 100000 in
theorem formula_empty.calls (a0_0 : ByteArray) (A0_1 : Option Addr) (c0_1 : Nat) (l0_1 : List (S92)) (r : Bool) (w : World) (hr0_1 : Kd.C k92 w A0_1 l0_1.length l0_1) (hc0_1 : l0_1.length ≤ c0_1) (h : formula_empty.f a0_0 l0_1 = some r) :
  Calls Tryz.prog 95 #[.agg #[.string a0_0, .slice A0_1 l0_1.length c0_1]] w fun e w' => e = .returned (.bool r) ∧ Below w.heap.size w w' := by
 have hu25 := Tryz.underlying25
 have HR0_1 := Aside0.mk hr0_1
 have HC0_1 := Aside0.mk hc0_1
 clear hr0_1 hc0_1
 have HB := Aside0.mk (Below.refl w.heap.size w)
 have H : (if a0_0.toList = ([] : List UInt8) then (some ((l0_1.length : Int) == 0)) else (some false)) = some r := h
 clear h
 by_cases c2 : a0_0.toList = ([] : List UInt8)
 ·rw [if_pos c2] at H
  have c2b0 : (a0_0.toList == ([] : List UInt8)) = true := beq_iff_eq.mpr c2
  have c2b1 : (a0_0.toList != ([] : List UInt8)) = false := bne_eq_false_iff_eq.mpr c2
  clear c2
  obtain rfl := Option.some.inj H
  go_enter Tryz.func95, Tryz.ntmps95
  go_wp2_with (first | ((with_reducible refine gate_dst (N := 1) rfl ?_); (try (refine gate_guard (by rfl) ?_; dsimp only)); refine bE (N := 1) (cs := #[.string a0_0, .slice A0_1 l0_1.length c0_1]) (t := 25) ?_; intro gb129 hg w3 hbox hb; have n0_ := Aside0.mk (below_step bB0 hb); have n1_ := Aside0.mk (hbox); have n2_ := Aside0.mk ((by rw [hg]; exact (below_size bB0) : w.heap.size ≤ gb129)); have n3_ := Aside0.mk ((by rw [hg]; exact (below_size bB0) : w.heap.size ≤ gb129)); clear HB; have HB := n0_; have BK129 := n1_; have GW129 := n2_; have GE129 := n3_; clear n0_ n1_ n2_ n3_; clear hb hbox hg; have hcz4_0 : w3.cell? ⟨gb129, 0, none⟩ = some (.string a0_0) := (blk_cell BK129.out 0).trans rfl; have hcz4_1 : w3.cell? ⟨gb129, 1, none⟩ = some (.slice A0_1 l0_1.length c0_1) := (blk_cell BK129.out 1).trans rfl; have hfz4_0 := blk_frozen BK129.out 0; have hfz4_1 := blk_frozen BK129.out 1))
  go_ret
  exact ⟨eW, (bB1 GE129.out)⟩
 ·rw [if_neg c2] at H
  have c2b0 : (a0_0.toList == ([] : List UInt8)) = false := beq_eq_false_iff_ne.mpr c2
  have c2b1 : (a0_0.toList != ([] : List UInt8)) = true := bne_iff_ne.mpr c2
  obtain rfl := Option.some.inj H
  go_enter Tryz.func95, Tryz.ntmps95
  go_wp2_with (first | ((with_reducible refine gate_dst (N := 1) rfl ?_); (try (refine gate_guard (by rfl) ?_; dsimp only)); refine bE (N := 1) (cs := #[.string a0_0, .slice A0_1 l0_1.length c0_1]) (t := 25) ?_; intro gb129 hg w5 hbox hb; have n0_ := Aside0.mk (below_step bB0 hb); have n1_ := Aside0.mk (hbox); have n2_ := Aside0.mk ((by rw [hg]; exact (below_size bB0) : w.heap.size ≤ gb129)); have n3_ := Aside0.mk ((by rw [hg]; exact (below_size bB0) : w.heap.size ≤ gb129)); clear HB; have HB := n0_; have BK129 := n1_; have GW129 := n2_; have GE129 := n3_; clear n0_ n1_ n2_ n3_; clear hb hbox hg; have hcz6_0 : w5.cell? ⟨gb129, 0, none⟩ = some (.string a0_0) := (blk_cell BK129.out 0).trans rfl; have hcz6_1 : w5.cell? ⟨gb129, 1, none⟩ = some (.slice A0_1 l0_1.length c0_1) := (blk_cell BK129.out 1).trans rfl; have hfz6_0 := blk_frozen BK129.out 0; have hfz6_1 := blk_frozen BK129.out 1))
  go_ret
  exact ⟨eW, (bB1 GE129.out)⟩
end Go.Proofs.YtghommaokdhjmaaGreat.P
/- Formulas, plainly: where each node's own begin, how deep it is; a right formula's nodes have their arms ahead of them. -/
namespace Go.Proofs.YtghommaokdhjmaaGreat.Frm
open Go.RowKit Go.Lib Go.Proofs.YtghommaokdhjmaaGreatW.PrintWords P FactC PSat
def arms (k : Int) : Int := if k = 1 then 0 else if k = 2 ∨ k = 5 ∨ k = 6 ∨ k = 7 then 1 else if k = 3 ∨ k = 4 ∨ k = 8 then 2 else -1
theorem arms_eq (k : Int) : formula_Arms.f 1 k = some (arms k) := by
 unfold formula_Arms.f arms
 simp only [formula_Arms.j0]
 by_cases h1 : k = 1
 ·simp [h1]
 by_cases h2 : k = 2
 ·simp [h2]
 by_cases h5 : k = 5
 ·simp [h5]
 by_cases h6 : k = 6
 ·simp [h6]
 by_cases h7 : k = 7
 ·simp [h7]
 by_cases h3 : k = 3
 ·simp [h3]
 by_cases h4 : k = 4
 ·simp [h4]
 by_cases h8 : k = 8
 ·simp [h8]
 simp [h1, h2, h3, h4, h5, h6, h7, h8]
def emptyA (a : S25) : Bool := a.f0.toList == [] && a.f1.length == 0
theorem empty_eq (a : S25) : formula_empty.f a.f0 a.f1 = some (emptyA a) := by
 unfold formula_empty.f emptyA
 by_cases h : a.f0.toList = []
 ·rw [if_pos h, h]
  cases hq : a.f1 with
  | nil => rfl
  | cons y l => simp; omega
 ·rw [if_neg h]; simp [h]
def stepN (x : S62) (i : Nat) (fr dp : List Int) : Option (Int × Int) :=
 if arms x.f0 = 0 then (if x.f2 ≠ 0 ∨ x.f3 ≠ 0 ∨ matP x.f1.f0 x.f1.f1 ≠ 0 then none else some ((i : Int), 1))
 else if arms x.f0 = 1 then (if i < 1 ∨ x.f2 ≠ (i : Int) - 1 ∨ x.f3 ≠ 0 ∨ emptyA x.f1 = false then none else some (fr.getD (i - 1) 0, dp.getD (i - 1) 0 + 1))
 else if arms x.f0 = 2 then (if i < 1 ∨ x.f3 ≠ (i : Int) - 1 ∨ fr.getD (i - 1) 0 < 1 ∨ x.f2 ≠ fr.getD (i - 1) 0 - 1 ∨ emptyA x.f1 = false then none else some (fr.getD x.f2.toNat 0, max (dp.getD x.f2.toNat 0) (dp.getD x.f3.toNat 0) + 1))
 else none
def fromsP : List S62 → Nat → List Int → List Int → Option (List Int × List Int)
 | [], _, fr, dp => some (fr, dp)
 | x :: l, i, fr, dp => match stepN x i fr dp with
  | none => none
  | some (a, b) => fromsP l (i + 1) (fr ++ [a]) (dp ++ [b])
def chkN (l : List S62) : Int := if l.length < 1 ∨ 40 < l.length then 17 else match fromsP l 0 [] [] with
 | none => 17
 | some (fr, dp) => if fr.getD (l.length - 1) 0 ≠ 0 ∨ 12 < dp.getD (l.length - 1) 0 then 17 else 0
def relN (x : S62) (j : Nat) (fr : List Int) : Prop :=
 (arms x.f0 = 0 ∧ fr.getD j 0 = j) ∨ (arms x.f0 = 1 ∧ 1 ≤ j ∧ x.f2 = (j : Int) - 1 ∧ fr.getD j 0 = fr.getD (j - 1) 0)
  ∨ (arms x.f0 = 2 ∧ 1 ≤ j ∧ x.f3 = (j : Int) - 1 ∧ 1 ≤ fr.getD (j - 1) 0 ∧ x.f2 = fr.getD (j - 1) 0 - 1 ∧ fr.getD j 0 = fr.getD x.f2.toNat 0)
theorem getD_lt (fr l : List Int) (k : Nat) (h : k < fr.length) : (fr ++ l).getD k 0 = fr.getD k 0 := by
 rw [List.getD_eq_getElem?_getD, List.getD_eq_getElem?_getD, List.getElem?_append_left h]
theorem getD_at (fr : List Int) (a : Int) : (fr ++ [a]).getD fr.length 0 = a := by simp
def okF (fr : List Int) : Prop := ∀ j, j < fr.length → 0 ≤ fr.getD j 0 ∧ fr.getD j 0 ≤ j
theorem okF_nil : okF [] := fun j h => by simp at h
theorem okF_snoc {fr : List Int} {a : Int} (h : okF fr) (h1 : 0 ≤ a) (h2 : a ≤ fr.length) : okF (fr ++ [a]) := by
 intro j hj
 rw [List.length_append, List.length_singleton] at hj
 by_cases hl : j < fr.length
 ·rw [getD_lt _ _ _ hl]; exact h j hl
 ·obtain rfl : j = fr.length := by omega
  rw [getD_at]; exact ⟨h1, h2⟩
theorem step_ok {x : S62} {i : Nat} {fr dp : List Int} {a b : Int} (h : stepN x i fr dp = some (a, b)) (hf : okF fr) (hl : fr.length = i) : 0 ≤ a ∧ a ≤ i := by
 unfold stepN at h
 by_cases h0 : arms x.f0 = 0
 ·rw [if_pos h0] at h
  split at h
  ·cases h
  ·injection h with h; injection h with h1 h2; omega
 ·rw [if_neg h0] at h
  by_cases h1 : arms x.f0 = 1
  ·rw [if_pos h1] at h
   split at h
   ·cases h
   ·injection h with h; injection h with h2 h3
    have := hf (i - 1) (by omega)
    omega
  ·rw [if_neg h1] at h
   by_cases h2 : arms x.f0 = 2
   ·rw [if_pos h2] at h
    split at h
    ·cases h
    ·injection h with h; injection h with h3 h4
     rename_i hn
     have h5 := hf (i - 1) (by omega)
     have h6 := hf x.f2.toNat (by omega)
     omega
   ·rw [if_neg h2] at h; cases h
theorem step_rel {x : S62} {i : Nat} {fr dp l : List Int} {a b : Int} (h : stepN x i fr dp = some (a, b)) (hf : okF fr) (hl : fr.length = i) : relN x i (fr ++ [a] ++ l) := by
 have hat : (fr ++ [a] ++ l).getD i 0 = a := by rw [getD_lt _ _ _ (by simp; omega), ← hl, getD_at]
 have hlt : ∀ k, k < i → (fr ++ [a] ++ l).getD k 0 = fr.getD k 0 := fun k hk => by rw [List.append_assoc, getD_lt _ _ _ (by omega)]
 unfold relN
 rw [hat]
 unfold stepN at h
 by_cases h0 : arms x.f0 = 0
 ·rw [if_pos h0] at h
  split at h
  ·cases h
  ·injection h with h; injection h with h1 h2; exact .inl ⟨h0, by omega⟩
 ·rw [if_neg h0] at h
  by_cases h1 : arms x.f0 = 1
  ·rw [if_pos h1] at h
   split at h
   ·cases h
   ·injection h with h; injection h with h2 h3
    rw [hlt _ (by omega)]
    exact .inr (.inl ⟨h1, by omega, by omega, by omega⟩)
  ·rw [if_neg h1] at h
   by_cases h2 : arms x.f0 = 2
   ·rw [if_pos h2] at h
    split at h
    ·cases h
    ·injection h with h; injection h with h3 h4
     rename_i hn
     have h5 := hf (i - 1) (by omega)
     rw [hlt _ (by omega), hlt _ (by omega)]
     exact .inr (.inr ⟨h2, by omega, by omega, by omega, by omega, by omega⟩)
   ·rw [if_neg h2] at h; cases h
theorem froms_ok : ∀ (l : List S62) (i : Nat) (fr dp fr' dp' : List Int), fromsP l i fr dp = some (fr', dp') → okF fr → fr.length = i → okF fr' ∧ fr'.length = i + l.length ∧ (∃ z, fr' = fr ++ z) ∧ ∀ j (h : j < l.length), relN l[j] (i + j) fr' := by
 intro l
 induction l with
 | nil =>
  intro i fr dp fr' dp' h hf hl
  simp only [fromsP] at h
  injection h with h; injection h with h1 h2
  subst h1
  exact ⟨hf, by simpa using hl, ⟨[], by simp⟩, fun j hj => by simp at hj⟩
 | cons x l ih =>
  intro i fr dp fr' dp' h hf hl
  simp only [fromsP] at h
  rcases hs : stepN x i fr dp with _ | ⟨a, b⟩
  ·rw [hs] at h; cases h
  ·rw [hs] at h
   have ha := step_ok hs hf hl
   obtain ⟨h1, h2, ⟨z, h3⟩, h4⟩ := ih (i + 1) (fr ++ [a]) _ _ _ h (okF_snoc hf ha.1 (by omega)) (by simp; omega)
   refine ⟨h1, by simp; omega, ⟨[a] ++ z, by rw [h3, List.append_assoc]⟩, fun j hj => ?_⟩
   rcases j with _ | j
   ·rw [h3]; exact step_rel hs hf hl
   ·have := h4 j (by simpa using hj)
    rw [show i + 1 + j = i + (j + 1) by omega] at this
    exact this
theorem arms_kind {k : Int} : (arms k = 0 → k = 1) ∧ (arms k = 1 → k = 2 ∨ k = 5 ∨ k = 6 ∨ k = 7) ∧ (arms k = 2 → two k) := by
 unfold arms two
 refine ⟨fun h => ?_, fun h => ?_, fun h => ?_⟩
 all_goals (
  split at h
  ·omega
  ·split at h
   ·omega
   ·split at h <;> omega)
theorem rel_in {x : S62} {j : Nat} {fr : List Int} (h : relN x j fr) (hf : okF fr) (hj : j < fr.length) : inN x j := by
 obtain ⟨k0, k1, k2⟩ := @arms_kind x.f0
 unfold inN
 rcases h with ⟨h0, h1⟩ | ⟨h0, h1, h2, h3⟩ | ⟨h0, h1, h2, h3, h4, h5⟩
 ·have := k0 h0
  refine ⟨fun h => absurd this h, fun h => ?_, by omega, by omega⟩
  unfold two at h; omega
 ·have := k1 h0
  refine ⟨fun _ => by omega, fun h => ?_, by omega, by omega⟩
  unfold two at h; omega
 ·have h6 := k2 h0
  have h7 := hf (j - 1) (by omega)
  refine ⟨fun _ => by omega, fun h => by omega, ?_, ?_⟩ <;> (unfold two at h6; omega)
structure Right (l : List S62) (fr : List Int) : Prop where
 ok : okF fr
 len : fr.length = l.length
 pos : 1 ≤ l.length
 le : l.length ≤ 40
 zero : fr.getD (l.length - 1) 0 = 0
 rel : ∀ j (h : j < l.length), relN l[j] j fr
theorem right_of {l : List S62} (h : chkN l = 0) : ∃ fr, Right l fr := by
 unfold chkN at h
 split at h
 ·cases h
 ·split at h
  ·cases h
  ·rename_i hn fr dp hq
   split at h
   ·cases h
   ·obtain ⟨h1, h2, _, h4⟩ := froms_ok l 0 [] [] fr dp hq okF_nil rfl
    refine ⟨fr, h1, by omega, by omega, by omega, by omega, fun j hj => ?_⟩
    have := h4 j hj
    rwa [Nat.zero_add] at this
theorem Right.inL {l : List S62} {fr : List Int} (h : Right l fr) : inL l := fun j hj => rel_in (h.rel j hj) h.ok (by rw [h.len]; exact hj)
theorem chk_inL {l : List S62} (h : chkN l = 0) : inL l ∧ l ≠ [] ∧ l.length ≤ 40 := by
 obtain ⟨fr, hr⟩ := right_of h
 exact ⟨hr.inL, fun e => by have := hr.pos; rw [e] at this; simp at this, hr.le⟩
end Go.Proofs.YtghommaokdhjmaaGreat.Frm
/- formula.froms: its walk. -/
namespace Go.Proofs.YtghommaokdhjmaaGreat.Frm
open Go.RowKit Go.Lib Go.Proofs.YtghommaokdhjmaaGreatW.PrintWords P FactC IRow
def fitN (x : S62) : Prop := x.f1.f0.size ≤ 1000000 ∧ fitT x.f1.f1 = true
theorem step_bd {x : S62} {i : Nat} {fr dp : List Int} {a b : Int} (h : stepN x i fr dp = some (a, b)) (hd : ∀ k, k < dp.length → 0 ≤ dp.getD k 0 ∧ dp.getD k 0 ≤ (k : Int) + 1) (hf : okF fr) (hfl : fr.length = i) (hl : dp.length = i) : 0 ≤ b ∧ b ≤ (i : Int) + 1 := by
 unfold stepN at h
 by_cases h0 : arms x.f0 = 0
 ·rw [if_pos h0] at h
  split at h
  ·cases h
  ·injection h with h; injection h with h1 h2; omega
 ·rw [if_neg h0] at h
  by_cases h1 : arms x.f0 = 1
  ·rw [if_pos h1] at h
   split at h
   ·cases h
   ·injection h with h; injection h with h2 h3
    have := hd (i - 1) (by omega)
    omega
  ·rw [if_neg h1] at h
   by_cases h2 : arms x.f0 = 2
   ·rw [if_pos h2] at h
    split at h
    ·cases h
    ·injection h with h; injection h with h3 h4
     rename_i hn
     have h5 := hf (i - 1) (by omega)
     have h6 := hd x.f2.toNat (by omega)
     have h7 := hd x.f3.toNat (by omega)
     omega
   ·rw [if_neg h2] at h; cases h
theorem cell_al {W : World} {a : Addr} {v : Value} (o : Obj) (h : W.cell? a = some v) : (W.alloc o).cell? a = some v := (((Go.RowKit.Below.refl _ W).alloc (Nat.le_refl _) o).cell (World.block_lt_of_cell? _ _ h)).trans h
theorem getD_get (l : List Int) (i : Nat) (h : i < l.length) : l[i] = l.getD i 0 := by rw [List.getD_eq_getElem?_getD, List.getElem?_eq_getElem h]; rfl
theorem kwrap {z : Int} (h0 : -1 ≤ z) (h1 : z ≤ 4000000) : IntKind.i64.wrap z = z := by unfold IntKind.wrap; simp [IntKind.bits, IntKind.signed]; omega
structure FI (w wr : World) (l0 : List S62) (A A' : Option Addr) (c c' : Nat) (fr dp : List Int) (j : Nat) : Prop where
 lf : fr.length = j
 ld : dp.length = j
 bf : okF fr
 bd : ∀ k, k < dp.length → 0 ≤ dp.getD k 0 ∧ dp.getD k 0 ≤ (k : Int) + 1
 eq : fromsP l0 0 [] [] = fromsP (l0.drop j) j fr dp
 two : Two wr w.heap.size (.slice A j c) (.slice A' j c') fr dp
 bel : Go.RowKit.Below w.heap.size w wr
theorem FI.step {w wr w' : World} {l0 : List S62} {A A' F G : Option Addr} {c c' f g : Nat} {fr dp : List Int} {j : Nat} {x : S62} {a b : Int} (h : FI w wr l0 A A' c c' fr dp j) (hd : l0.drop j = x :: l0.drop (j + 1)) (hs : stepN x j fr dp = some (a, b))
  (ht : Two w' w.heap.size (.slice F (j + 1) f) (.slice G (j + 1) g) (fr ++ [a]) (dp ++ [b])) (hb : Go.RowKit.Below w.heap.size w w') : FI w w' l0 F G f g (fr ++ [a]) (dp ++ [b]) (j + 1) := by
 have h1 := step_ok hs h.bf h.lf
 have h2 := step_bd hs h.bd h.bf h.lf h.ld
 refine ⟨by simp [h.lf], by simp [h.ld], okF_snoc h.bf h1.1 (by rw [h.lf]; exact h1.2), fun k hk => ?_, ?_, ht, hb⟩
 ·rw [List.length_append, List.length_singleton] at hk
  by_cases hl : k < dp.length
  ·rw [getD_lt _ _ _ hl]; exact h.bd k hl
  ·obtain rfl : k = dp.length := by omega
   rw [getD_at, h.ld]; exact h2
 ·rw [h.eq, hd]
  simp only [fromsP, hs]
theorem wp_world {P : Program} {c : Code} {Q : Exit → Act → World → Prop} {a : Act} {W : World} (R : World → Prop) (hR : R W) (h : ∀ W', R W' → c.wp P Q a W') : c.wp P Q a W := h W hR
theorem rd62_get {l : List S62} {i : Nat} (hi : i < l.length) : rd_T62 l i = l[i] := by
 unfold rd_T62
 rw [Int.toNat_natCast, List.getD_eq_getElem?_getD, List.getElem?_eq_getElem hi]; rfl
set_option maxHeartbeats 8000000 in
set_option maxRecDepth 1000000 in
theorem froms_calls (A0 : Option Addr) (c0 : Nat) (l0 : List S62) (w : World) (hr0 : Kd.C k62 w A0 l0.length l0) (hc0 : l0.length ≤ c0) (hf : ∀ x ∈ l0, fitN x) (hl : l0.length ≤ 100000) (r : Option (List Int × List Int)) (hr : fromsP l0 0 [] [] = r) :
  Calls Tryz.prog 63 #[.slice A0 l0.length c0] w fun e w' => ∃ vf vd, e = .returned (.tuple #[vf, vd, .bool r.isSome]) ∧ (∀ a b, r = some (a, b) → IRow w' w.heap.size vf a ∧ IRow w' w.heap.size vd b) ∧ Go.RowKit.Below w.heap.size w w' := by
 have hu := Tryz.underlying62
 have HR0 := Aside0.mk hr0
 have HF := Aside0.mk hf
 have HRR := Aside0.mk hr
 clear hr0 hc0 hf hr
 obtain ⟨n, hn⟩ : ∃ n, n = l0.length := ⟨_, rfl⟩
 rw [← hn] at hl ⊢
 have HN := Aside0.mk hn
 clear hn
 go_enter Tryz.func63, Tryz.ntmps63
 go_wp2
 go_loopg [2, 3, 9] n (fun gg s2 s3 s9 wr => ∃ (A A' : Option Addr) (c c' : Nat) (fr dp : List Int) (j : Nat), s2 = .slice A j c ∧ s3 = .slice A' j c' ∧ s9 = .int .i64 j ∧ j ≤ n ∧ n - j ≤ gg ∧ Aside0 (FI w wr l0 A A' c c' fr dp j))
 case atStart => exact ⟨none, none, 0, 0, [], [], 0, rfl, rfl, rfl, Nat.zero_le _, Nat.le_refl _, ⟨rfl, rfl, okF_nil, by simp, rfl, ⟨IRow.start _ _, IRow.start _ _, by simp [Value.ownBlock]⟩, Go.RowKit.Below.refl _ _⟩⟩
 case round =>
  obtain ⟨A, A', c, c', fr, dp, j, rfl, rfl, rfl, hj, hg, HI⟩ := hrel
  by_cases hlt : j < n
  ·have hltz : (j : Int) < (n : Int) := by omega
   have hj2 : j < l0.length := by rw [← HN.out]; exact hlt
   obtain ⟨ad, A2, c2, eA, y0, y1, y2, y3, y4, y5, y6⟩ := at_T62 (Kd.C_below HR0.out HI.out.bel) (j : Int) (by omega) (by rw [← HN.out]; omega)
   subst eA
   rw [rd62_get hj2] at y0 y1 y2 y3 y4 y5 y6
   have HD := Aside0.mk (show l0.drop j = l0[j] :: l0.drop (j + 1) from List.drop_eq_getElem_cons hj2)
   have HX := Aside0.mk (HF.out l0[j] (List.getElem_mem hj2))
   generalize l0[j] = x at *
   rw [show ((j : Int)).toNat * 5 = j * 5 by omega] at y0 y1 y2 y3 y4
   have hb1 : Go.RowKit.Below w.heap.size w (wr.alloc (.cells #[.int .i64 x.f0, .string x.f1.f0, .slice A2 x.f1.f1.length c2, .int .i64 x.f2, .int .i64 x.f3] 62)) := HI.out.bel.alloc HI.out.bel.size _
   have hW : Go.RowKit.Below wr.heap.size wr (wr.alloc (.cells #[.int .i64 x.f0, .string x.f1.f0, .slice A2 x.f1.f1.length c2, .int .i64 x.f2, .int .i64 x.f3] 62)) := (Go.RowKit.Below.refl _ wr).alloc (Nat.le_refl _) _
   go_upto_region 4 with fail
   refine wp_world (fun W => W.cell? ⟨wr.heap.size, 0, none⟩ = some (.int .i64 x.f0) ∧ W.cell? ⟨wr.heap.size, 1, none⟩ = some (.string x.f1.f0) ∧ W.cell? ⟨wr.heap.size, 2, none⟩ = some (.slice A2 x.f1.f1.length c2) ∧ W.cell? ⟨wr.heap.size, 3, none⟩ = some (.int .i64 x.f2) ∧ W.cell? ⟨wr.heap.size, 4, none⟩ = some (.int .i64 x.f3) ∧ Go.RowKit.Below wr.heap.size wr W ∧ Go.RowKit.Below w.heap.size w W) ⟨by simp, by simp, by simp, by simp, by simp, hW, hb1⟩ ?_
   clear hW hb1
   rintro w1 ⟨z0, z1, z2, z3, z4, hb1, hb2⟩
   clear y0 y1 y2 y3 y4
   have cA : Aside0 (∀ W, Calls Tryz.prog 94 #[.int .i64 x.f0] W fun e w' => e = .returned (.int .i64 (arms x.f0)) ∧ Go.RowKit.Below W.heap.size W w') := ⟨fun W => (formula_Arms.calls 1 _ _ W (arms_eq _)).mono fun e w' ⟨he, hd⟩ => ⟨he, hd.below⟩⟩
   have cM : Aside0 (∀ W, Go.RowKit.Below wr.heap.size wr W → Calls Tryz.prog 58 #[.agg #[.string x.f1.f0, .slice A2 x.f1.f1.length c2]] W fun e w' => e = .returned (.int .i64 (matP x.f1.f0 x.f1.f1)) ∧ Go.RowKit.Below W.heap.size W w') := ⟨fun W hW => match_Check.calls x.f1.f0 A2 c2 x.f1.f1 _ W (Kd.C_below y6 hW) y5 (by unfold match_Check.f; rw [if_pos (show x.f1.f0.size ≤ 1000000 ∧ fitT x.f1.f1 = true from HX.out)])⟩
   have cE : Aside0 (∀ W, Go.RowKit.Below wr.heap.size wr W → Calls Tryz.prog 95 #[.agg #[.string x.f1.f0, .slice A2 x.f1.f1.length c2]] W fun e w' => e = .returned (.bool (emptyA x.f1)) ∧ Go.RowKit.Below W.heap.size W w') := ⟨fun W hW => formula_empty.calls x.f1.f0 A2 c2 x.f1.f1 _ W (Kd.C_below y6 hW) y5 (empty_eq x.f1)⟩
   have HS : Aside0 (r = match stepN x j fr dp with | none => none | some (a, b) => fromsP (l0.drop (j + 1)) (j + 1) (fr ++ [a]) (dp ++ [b])) := ⟨by rw [← HRR.out, HI.out.eq, HD.out]; rfl⟩
   clear y5 y6
   have HB1 := Aside0.mk hb1
   have HB2 := Aside0.mk hb2
   clear hb1 hb2
   go_upto_region 6 with (go_at_call 94; with_reducible refine (cA.out _).mono ?_; rintro e w2 ⟨rfl, hb⟩; replace z0 := mvc hb z0; replace z1 := mvc hb z1; replace z2 := mvc hb z2; replace z3 := mvc hb z3; replace z4 := mvc hb z4; have HB3 := Aside0.mk (HB1.out.trans (hb.mono HB1.out.size)); have HB4 := Aside0.mk (HB2.out.trans (hb.mono HB2.out.size)); clear hb cA HB1 HB2)
   have none_ : Aside0 (stepN x j fr dp = none → r = none) := ⟨fun h => by rw [HS.out, h]⟩
   generalize hq : arms x.f0 = q
   have HQ := Aside0.mk hq
   clear hq
   by_cases q0 : q = 0
   ·subst q0
    generalize hm : matP x.f1.f0 x.f1.f1 = mm at cM
    have HM := Aside0.mk hm
    clear hm
    by_cases p2 : x.f2 = 0
    ·by_cases p3 : x.f3 = 0
     ·by_cases p4 : mm = 0
      ·subst p4
       have HST : Aside0 (stepN x j fr dp = some ((j : Int), 1)) := ⟨by unfold stepN; rw [if_pos HQ.out, if_neg (by rintro (h | h | h); exact h p2; exact h p3; exact h HM.out)]⟩
       go_wp2_with (first
        | (go_at_call 58; with_reducible refine (cM.out _ HB3.out).mono ?_; rintro e w3 ⟨rfl, hb⟩; have HB5 := Aside0.mk (HB3.out.trans (hb.mono HB3.out.size)); have HB6 := Aside0.mk (HB4.out.trans (hb.mono HB4.out.size)); clear hb cM)
        | (at_builtin; first
         | (obtain ⟨F2, f2, w7, happ, hT, hb, hk⟩ := append2 (W := w5.alloc (.cells #[.int .i64 1] 3)) w.heap.size (.slice A' j c') (.slice F1 (j + 1) f1) dp (fr ++ [(j : Int)]) j 1 ⟨w5.heap.size, 0, none⟩ (HT5.out.symm.below ((Go.RowKit.Below.refl _ _).alloc (Nat.le_refl _) _)) HI.out.ld (by simp) (by have := HB7.out.size; simp; omega) (by omega); refine Lib.wpList_append_run _ (by rfl) (.tmp 37) (.tmp 38) 80 80 (by rfl) (.slice A' j c') (.slice (some ⟨w5.heap.size, 0, none⟩) 1 1) (by rfl) (by rfl) (.slice F2 (j + 1) f2) w7 (happ 80) ?_; have HT7 := Aside0.mk hT.symm; have HB9 := Aside0.mk ((HB7.out.alloc HB7.out.size _).trans hb); clear hT hb hk happ)
         | (obtain ⟨F1, f1, w5, happ, hT, hb, hk⟩ := append2 (W := w3.alloc (.cells #[.int .i64 (j : Int)] 3)) w.heap.size (.slice A j c) (.slice A' j c') fr dp j (j : Int) ⟨w3.heap.size, 0, none⟩ (HI.out.two.below (HB5.out.alloc HB5.out.size _)) HI.out.lf (by simp) (by have := HB6.out.size; simp; omega) (by omega); refine Lib.wpList_append_run _ rfl _ _ _ _ rfl _ _ rfl rfl _ _ (happ _) ?_; have hk5 := hk; have HT5 := Aside0.mk hT; have HB7 := Aside0.mk ((HB6.out.alloc HB6.out.size _).trans hb); clear hT hb hk happ)
         ))
       go_roundg (n - (j + 1))
       case measure => omega
       case rel => exact ⟨F1, F2, f1, f2, fr ++ [(j : Int)], dp ++ [1], j + 1, rfl, rfl, by go_num, by omega, by omega, ⟨HI.out.step HD.out HST.out HT7.out HB9.out⟩⟩
      ·have NO : Aside0 (r = none) := ⟨none_.out (by unfold stepN; rw [if_pos HQ.out, if_pos (.inr (.inr (by rw [HM.out]; exact p4)))])⟩
       go_wp2_with (go_at_call 58; with_reducible refine (cM.out _ HB3.out).mono ?_; rintro e w3 ⟨rfl, hb⟩; have HB5 := Aside0.mk (HB3.out.trans (hb.mono HB3.out.size)); have HB6 := Aside0.mk (HB4.out.trans (hb.mono HB4.out.size)); clear hb cM)
       go_ret3
       rw [NO.out]
       exact ⟨_, _, rfl, fun a b h => by simp at h, HB6.out⟩
     ·have NO : Aside0 (r = none) := ⟨none_.out (by unfold stepN; rw [if_pos HQ.out, if_pos (.inr (.inl p3))])⟩
      go_wp2
      go_ret3
      rw [NO.out]
      exact ⟨_, _, rfl, fun a b h => by simp at h, HB4.out⟩
    ·have NO : Aside0 (r = none) := ⟨none_.out (by unfold stepN; rw [if_pos HQ.out, if_pos (.inl p2)])⟩
     go_wp2
     go_ret3
     rw [NO.out]
     exact ⟨_, _, rfl, fun a b h => by simp at h, HB4.out⟩
   ·by_cases q1 : q = 1
    ·subst q1
     generalize he : emptyA x.f1 = ee at cE
     have HE := Aside0.mk he
     clear he
     by_cases p1 : (j : Int) < 1
     ·have NO : Aside0 (r = none) := ⟨none_.out (by unfold stepN; rw [if_neg (by rw [HQ.out]; decide), if_pos HQ.out, if_pos (.inl (by omega))])⟩
      go_wp2
      go_ret3
      rw [NO.out]
      exact ⟨_, _, rfl, fun a b h => by simp at h, HB4.out⟩
     ·have p1z : (0 : Int) ≤ (j : Int) - 1 := by omega
      by_cases p2 : x.f2 = (j : Int) - 1
      ·by_cases p3 : x.f3 = 0
       ·cases ee with
        | true =>
         have HST : Aside0 (stepN x j fr dp = some (fr.getD (j - 1) 0, dp.getD (j - 1) 0 + 1)) := ⟨by unfold stepN; rw [if_neg (by rw [HQ.out]; decide), if_pos HQ.out, if_neg (by rintro (h | h | h | h); exact absurd h (by omega); exact h p2; exact h p3; rw [HE.out] at h; cases h)]⟩
         obtain ⟨gF, eF, hgF, cF⟩ := HI.out.two.r1.at.2.2 (by omega)
         subst eF
         obtain ⟨gD, eD, hgD, cD⟩ := HI.out.two.r2.at.2.2 (by omega)
         subst eD
         have hne : gF ≠ gD := fun e => HI.out.two.apart gF rfl (by rw [e]; rfl)
         have hcF := HI.out.two.r1.at.2.1
         have hcD := HI.out.two.r2.at.2.1
         have kF := cF (j - 1) (by rw [HI.out.lf]; omega)
         have kD := cD (j - 1) (by rw [HI.out.ld]; omega)
         rw [getD_get] at kF kD
         have hvD := HI.out.bd (j - 1) (by rw [HI.out.ld]; omega)
         clear cF cD
         generalize hvF : fr.getD (j - 1) 0 = vF at *
         generalize hvD' : dp.getD (j - 1) 0 = vD at *
         have HVF := Aside0.mk hvF
         have HVD := Aside0.mk hvD'
         clear hvF hvD'
         have p1y : (j : Int) - 1 < (j : Int) := by omega
         have hlF := World.block_lt_of_cell? _ _ kF
         have hlD := World.block_lt_of_cell? _ _ kD
         have tn : ((j : Int) - 1).toNat = j - 1 := by omega
         have kw1 : IntKind.i64.wrap ((j : Int) - 1) = (j : Int) - 1 := kwrap (by omega) (by omega)
         have kw2 : IntKind.i64.wrap (vD + 1) = vD + 1 := kwrap (by omega) (by omega)
         go_wp2_with (first
          | (go_at_call 95; with_reducible refine (cE.out _ HB3.out).mono ?_; rintro e w3 ⟨rfl, hb⟩; have HB5 := Aside0.mk (HB3.out.trans (hb.mono HB3.out.size)); have HB6 := Aside0.mk (HB4.out.trans (hb.mono HB4.out.size)); clear hb cE)
          | fail)
         replace kF := (HB5.out.cell hlF).trans kF
         replace kD := (HB5.out.cell hlD).trans kD
         replace hlF : gF < w3.heap.size := World.block_lt_of_cell? _ _ kF
         replace hlD : gD < w3.heap.size := World.block_lt_of_cell? _ _ kD
         clear z0 z1 z2 z3 z4
         go_region_held3 (fun w' => w'.cell? ⟨gF, j - 1, none⟩ = some (.int .i64 vF) ∧ w'.cell? ⟨gD, j - 1, none⟩ = some (.int .i64 vD))
          (first | go_keep | (go_split_ands; refine ⟨?_, ?_⟩ <;> first | assumption | (apply cell_al; assumption)))
          (first
           | ((try go_split_ands); (refine step_append2 w.heap.size (by rfl) (.tmp 62) (.tmp 68) (by rfl) (.slice (some ⟨gF, 0, none⟩) j c) (.slice (some ⟨gD, 0, none⟩) j c') fr dp j vF _ (by rfl) (by rfl) (HI.out.two.below (by repeat (first | exact HB5.out | apply below_alloc | apply below_drew1))) HI.out.lf (by first | (simp; done) | (go_split_ands; simp [*]; done)) (by have := HB6.out.size; first | omega | (simp; omega)) (by omega) ?_); intro F1 f1 w5 hT hb hk; have s1 := hk.1 ⟨gD, j - 1, none⟩ (.int .i64 vD) (by first | assumption | (apply cell_al; assumption)) (by simp [Value.ownBlock]; omega); have s2 := hk.2 gF (j - 1) (by rw [HI.out.lf]; omega) rfl; rw [getD_get, HVF.out] at s2; have hk5 := hk; have HT5 := Aside0.mk hT; have HB7 := Aside0.mk (show Go.RowKit.Below w.heap.size w w5 from (by refine Go.RowKit.Below.trans ?_ hb; repeat (first | exact HB6.out | apply below_alloc | apply below_drew1))); clear hT hb)
           | ((try go_split_ands); (refine step_append2 w.heap.size (by rfl) (.tmp 70) (.tmp 77) (by rfl) (.slice (some ⟨gD, 0, none⟩) j c') (.slice F1 (j + 1) f1) dp (fr ++ [vF]) j (vD + 1) _ (by rfl) (by rfl) (by repeat (first | exact HT5.out.symm | refine Two.below ?_ ((Go.RowKit.Below.refl _ _).alloc (Nat.le_refl _) _))) HI.out.ld (by first | (simp; done) | (refine hk5.1 _ _ (by simp) (by simp [Value.ownBlock]; omega))) (by have := HB7.out.size; first | omega | (simp; omega)) (by omega) ?_); intro F2 f2 w7 hT hb hk; have s1 := hk.1 ⟨gF, j - 1, none⟩ (.int .i64 vF) (by first | assumption | (apply cell_al; assumption)) (by simp [Value.ownBlock]; omega); have s2 := hk.2 gD (j - 1) (by rw [HI.out.ld]; omega) rfl; rw [getD_get, HVD.out] at s2; have HT7 := Aside0.mk hT.symm; have HB9 := Aside0.mk (show Go.RowKit.Below w.heap.size w w7 from (by refine Go.RowKit.Below.trans ?_ hb; repeat (first | exact HB7.out | apply below_alloc))); clear hT hb hk))
         all_goals (
          go_wp2
          go_roundg (n - (j + 1))
          case measure => omega
          case rel => exact ⟨F1, F2, f1, f2, fr ++ [vF], dp ++ [vD + 1], j + 1, rfl, rfl, by go_num, by omega, by omega, ⟨HI.out.step HD.out HST.out HT7.out HB9.out⟩⟩)
        | false =>
         have NO : Aside0 (r = none) := ⟨none_.out (by unfold stepN; rw [if_neg (by rw [HQ.out]; decide), if_pos HQ.out, if_pos (.inr (.inr (.inr HE.out)))])⟩
         go_wp2_with (go_at_call 95; with_reducible refine (cE.out _ HB3.out).mono ?_; rintro e w3 ⟨rfl, hb⟩; have HB6 := Aside0.mk (HB4.out.trans (hb.mono HB4.out.size)); clear hb cE)
         go_ret3
         rw [NO.out]
         exact ⟨_, _, rfl, fun a b h => by simp at h, HB6.out⟩
       ·have NO : Aside0 (r = none) := ⟨none_.out (by unfold stepN; rw [if_neg (by rw [HQ.out]; decide), if_pos HQ.out, if_pos (.inr (.inr (.inl p3)))])⟩
        go_wp2
        go_ret3
        rw [NO.out]
        exact ⟨_, _, rfl, fun a b h => by simp at h, HB4.out⟩
      ·have NO : Aside0 (r = none) := ⟨none_.out (by unfold stepN; rw [if_neg (by rw [HQ.out]; decide), if_pos HQ.out, if_pos (.inr (.inl p2))])⟩
       go_wp2
       go_ret3
       rw [NO.out]
       exact ⟨_, _, rfl, fun a b h => by simp at h, HB4.out⟩
    ·by_cases q2 : q = 2
     ·subst q2
      generalize he : emptyA x.f1 = ee at cE
      have HE := Aside0.mk he
      clear he
      have N1 : arms x.f0 ≠ 0 := by rw [HQ.out]; decide
      have N2 : arms x.f0 ≠ 1 := by rw [HQ.out]; decide
      have HN12 := Aside0.mk (And.intro N1 N2)
      clear N1 N2
      by_cases p1 : (j : Int) < 1
      ·have NO : Aside0 (r = none) := ⟨none_.out (by unfold stepN; rw [if_neg HN12.out.1, if_neg HN12.out.2, if_pos HQ.out, if_pos (.inl (by omega))])⟩
       go_wp2_with fail
       go_quiet (fail)
       go_wp2
       go_ret3
       rw [NO.out]
       exact ⟨_, _, rfl, fun a b h => by simp at h, pw_below_drewN HB4.out _⟩
      ·have d1 : decide ((j : Int) < 1) = false := decide_eq_false p1
       obtain ⟨gF, eF, hgF, cF⟩ := HI.out.two.r1.at.2.2 (by omega)
       subst eF
       obtain ⟨gD, eD, hgD, cD⟩ := HI.out.two.r2.at.2.2 (by omega)
       subst eD
       have hne : gF ≠ gD := fun e => HI.out.two.apart gF rfl (by rw [e]; rfl)
       have hcF := HI.out.two.r1.at.2.1
       have hcD := HI.out.two.r2.at.2.1
       have kF := cF (j - 1) (by rw [HI.out.lf]; omega)
       have kD := cD (j - 1) (by rw [HI.out.ld]; omega)
       rw [getD_get] at kF kD
       have hvD := HI.out.bd (j - 1) (by rw [HI.out.ld]; omega)
       have hvF1 := HI.out.bf (j - 1) (by rw [HI.out.lf]; omega)
       have CF := Aside0.mk cF
       have CD := Aside0.mk cD
       clear cF cD
       generalize hvF : fr.getD (j - 1) 0 = vF at kF hvF1
       generalize hvD' : dp.getD (j - 1) 0 = vD at kD hvD
       have HVF := Aside0.mk hvF
       have HVD := Aside0.mk hvD'
       clear hvF hvD'
       have p1z : (0 : Int) ≤ (j : Int) - 1 := by omega
       have p1y : (j : Int) - 1 < (j : Int) := by omega
       have tn : ((j : Int) - 1).toNat = j - 1 := by omega
       have kw1 : IntKind.i64.wrap ((j : Int) - 1) = (j : Int) - 1 := kwrap (by omega) (by omega)
       have kw3 : IntKind.i64.wrap (vF - 1) = vF - 1 := kwrap (by omega) (by omega)
       have hlF := World.block_lt_of_cell? _ _ kF
       have hlD := World.block_lt_of_cell? _ _ kD
       replace kF := (HB3.out.cell hlF).trans kF
       by_cases p2 : x.f3 = (j : Int) - 1
       ·by_cases p3 : vF < 1
        ·have NO : Aside0 (r = none) := ⟨none_.out (by unfold stepN; rw [if_neg HN12.out.1, if_neg HN12.out.2, if_pos HQ.out, if_pos (.inr (.inr (.inl (by rw [HVF.out]; exact p3))))])⟩
         have d3 : decide (vF < 1) = true := decide_eq_true p3
         go_wp2_with fail
         go_quiet (fail)
         go_wp2
         go_ret3
         rw [NO.out]
         exact ⟨_, _, rfl, fun a b h => by simp at h, pw_below_drewN HB4.out _⟩
        ·have d3 : decide (vF < 1) = false := decide_eq_false p3
         by_cases p4 : x.f2 = vF - 1
         ·have hx2 : 0 ≤ x.f2 ∧ x.f2 < (j : Int) := by omega
          obtain ⟨u, hu⟩ : ∃ u : Nat, x.f2 = (u : Int) := ⟨x.f2.toNat, by omega⟩
          rw [hu] at z3 p4 hx2
          rw [p2] at z4
          have HP4 := Aside0.mk p4
          have HU := Aside0.mk hu
          have HP2 := Aside0.mk p2
          have d4 : ((u : Int) != vF - 1) = false := by simp [p4]
          have huj : u < j := by omega
          have huj2 : (u : Int) < (j : Int) := by omega
          clear p4 hu hx2 p2
          have hd1 : Go.RowKit.Below w2.heap.size w2 w2.drew := below_drew1 (Go.RowKit.Below.refl _ _)
          have cE2 : Aside0 (∀ W, Go.RowKit.Below w2.heap.size w2 W → Calls Tryz.prog 95 #[.agg #[.string x.f1.f0, .slice A2 x.f1.f1.length c2]] W fun e w' => e = .returned (.bool ee) ∧ Go.RowKit.Below w2.heap.size w2 w') := ⟨fun W hW => (cE.out W (HB3.out.trans (hW.mono HB3.out.size))).mono fun e w' h => ⟨h.1, hW.trans (h.2.mono hW.size)⟩⟩
          clear cE
          cases ee with
          | true =>
           have kU := CF.out u (by rw [HI.out.lf]; omega)
           have kV := CD.out u (by rw [HI.out.ld]; omega)
           rw [getD_get] at kU kV
           have hvV := HI.out.bd u (by rw [HI.out.ld]; omega)
           have HST : Aside0 (stepN x j fr dp = some (fr.getD u 0, max (dp.getD u 0) vD + 1)) := ⟨by
            unfold stepN
            rw [if_neg HN12.out.1, if_neg HN12.out.2, if_pos HQ.out, if_neg (by rintro (h | h | h | h | h); exact absurd h (by omega); exact h HP2.out; exact p3 (by rw [← HVF.out]; exact h); exact h (by rw [HVF.out, HU.out]; exact HP4.out); rw [HE.out] at h; cases h), HU.out, HP2.out, tn, HVD.out, Int.toNat_natCast]⟩
           generalize hvU : fr.getD u 0 = vU at kU HST
           generalize hvV' : dp.getD u 0 = vV at kV hvV HST
           have HVU := Aside0.mk hvU
           have HVV := Aside0.mk hvV'
           clear hvU hvV'
           go_wp2_with fail
           go_region_held3 (fun w' => w'.cell? ⟨wr.heap.size, 1, none⟩ = some (.string x.f1.f0) ∧ w'.cell? ⟨wr.heap.size, 2, none⟩ = some (.slice A2 x.f1.f1.length c2) ∧ w'.cell? ⟨wr.heap.size, 3, none⟩ = some (.int .i64 (u : Int)) ∧ w'.cell? ⟨wr.heap.size, 4, none⟩ = some (.int .i64 ((j : Int) - 1)) ∧ w'.cell? ⟨gF, j - 1, none⟩ = some (.int .i64 vF))
            (first | go_keep | (refine ⟨?_, ?_, ?_, ?_, ?_⟩ <;> assumption))
            (first | (go_at_call 95; (with_reducible refine (cE2.out _ hd1).mono ?_); rintro e w3 ⟨rfl, hb⟩; have HB5 := Aside0.mk (HB3.out.trans (hb.mono HB3.out.size)); have HB6 := Aside0.mk (HB4.out.trans (hb.mono HB4.out.size)); replace z1 := mvc hb z1; replace z2 := mvc hb z2; replace z3 := mvc hb z3; replace z4 := mvc hb z4; replace kF := mvc hb kF; clear hb))
           all_goals go_wp2
           have hlF3 : gF < w3.heap.size := Nat.lt_of_lt_of_le hlF HB5.out.size
           have hlD3 : gD < w3.heap.size := Nat.lt_of_lt_of_le hlD HB5.out.size
           replace kU := (HB5.out.cell hlF).trans kU
           replace kV := (HB5.out.cell hlD).trans kV
           replace kD := (HB5.out.cell hlD).trans kD
           obtain ⟨mx, hmx⟩ : ∃ mx, mx = max vV vD := ⟨_, rfl⟩
           have hmx1 : max vV vD = mx := hmx.symm
           have kw4 : IntKind.i64.wrap (mx + 1) = mx + 1 := kwrap (by omega) (by omega)
           rw [← hmx] at HST
           clear hmx
           clear z1 z2 kF d1 d3 d4 kw3
           go_region_held3 (fun w' => w'.cell? ⟨wr.heap.size, 3, none⟩ = some (.int .i64 (u : Int)) ∧ w'.cell? ⟨wr.heap.size, 4, none⟩ = some (.int .i64 ((j : Int) - 1)) ∧ w'.cell? ⟨gF, u, none⟩ = some (.int .i64 vU) ∧ w'.cell? ⟨gD, u, none⟩ = some (.int .i64 vV) ∧ w'.cell? ⟨gD, j - 1, none⟩ = some (.int .i64 vD))
            (first | go_keep | (go_split_ands; refine ⟨?_, ?_, ?_, ?_, ?_⟩ <;> first | assumption | (apply cell_al; assumption)))
            (first
             | ((try go_split_ands); (refine step_append2 w.heap.size (by rfl) (.tmp 115) (.tmp 121) (by rfl) (.slice (some ⟨gF, 0, none⟩) j c) (.slice (some ⟨gD, 0, none⟩) j c') fr dp j vU _ (by rfl) (by rfl) (HI.out.two.below (by repeat (first | exact HB5.out | apply below_alloc | apply below_drew1))) HI.out.lf (by first | (simp; done) | (go_split_ands; simp [*]; done)) (by have := HB6.out.size; first | omega | (simp; omega)) (by omega) ?_); intro F1 f1 w5 hT hb hk; have s1 := hk.1 ⟨wr.heap.size, 3, none⟩ (.int .i64 (u : Int)) (by first | assumption | (apply cell_al; assumption)) (by simp [Value.ownBlock]; omega); have s2 := hk.1 ⟨wr.heap.size, 4, none⟩ (.int .i64 ((j : Int) - 1)) (by first | assumption | (apply cell_al; assumption)) (by simp [Value.ownBlock]; omega); have s3 := hk.2 gF u (by rw [HI.out.lf]; omega) rfl; rw [getD_get, HVU.out] at s3; have s4 := hk.1 ⟨gD, u, none⟩ (.int .i64 vV) (by first | assumption | (apply cell_al; assumption)) (by simp [Value.ownBlock]; omega); have s5 := hk.1 ⟨gD, j - 1, none⟩ (.int .i64 vD) (by first | assumption | (apply cell_al; assumption)) (by simp [Value.ownBlock]; omega); have hk5 := hk; have HT5 := Aside0.mk hT; have HB7 := Aside0.mk (show Go.RowKit.Below w.heap.size w w5 from (by refine Go.RowKit.Below.trans ?_ hb; repeat (first | exact HB6.out | apply below_alloc | apply below_drew1))); clear hT hb)
             | ((try go_split_ands); (refine step_append2 w.heap.size (by rfl) (.tmp 123) (.tmp 136) (by rfl) (.slice (some ⟨gD, 0, none⟩) j c') (.slice F1 (j + 1) f1) dp (fr ++ [vU]) j (mx + 1) _ (by rfl) (by rfl) (by repeat (first | exact HT5.out.symm | refine Two.below ?_ ((Go.RowKit.Below.refl _ _).alloc (Nat.le_refl _) _))) HI.out.ld (by first | (simp; done) | (refine hk5.1 _ _ (by simp) (by simp [Value.ownBlock]; omega))) (by have := HB7.out.size; first | omega | (simp; omega)) (by omega) ?_); intro F2 f2 w7 hT hb hk; have s1 := hk.1 ⟨wr.heap.size, 3, none⟩ (.int .i64 (u : Int)) (by first | assumption | (apply cell_al; assumption)) (by simp [Value.ownBlock]; omega); have s2 := hk.1 ⟨wr.heap.size, 4, none⟩ (.int .i64 ((j : Int) - 1)) (by first | assumption | (apply cell_al; assumption)) (by simp [Value.ownBlock]; omega); have s3 := hk.1 ⟨gF, u, none⟩ (.int .i64 vU) (by first | assumption | (apply cell_al; assumption)) (by simp [Value.ownBlock]; omega); have s4 := hk.2 gD u (by rw [HI.out.ld]; omega) rfl; rw [getD_get, HVV.out] at s4; have s5 := hk.2 gD (j - 1) (by rw [HI.out.ld]; omega) rfl; rw [getD_get, HVD.out] at s5; have HT7 := Aside0.mk hT.symm; have HB9 := Aside0.mk (show Go.RowKit.Below w.heap.size w w7 from (by refine Go.RowKit.Below.trans ?_ hb; repeat (first | exact HB7.out | apply below_alloc))); clear hT hb hk)
             | fail)
           all_goals (
            go_wp2
            go_roundg (n - (j + 1))
            case measure => omega
            case rel => exact ⟨F1, F2, f1, f2, fr ++ [vU], dp ++ [mx + 1], j + 1, rfl, rfl, by go_num, by omega, by omega, ⟨HI.out.step HD.out HST.out HT7.out HB9.out⟩⟩)
          | false =>
           have NO : Aside0 (r = none) := ⟨none_.out (by unfold stepN; rw [if_neg HN12.out.1, if_neg HN12.out.2, if_pos HQ.out, if_pos (.inr (.inr (.inr (.inr HE.out))))])⟩
           go_wp2_with fail
           go_region_held3 (fun w' => w'.cell? ⟨wr.heap.size, 1, none⟩ = some (.string x.f1.f0) ∧ w'.cell? ⟨wr.heap.size, 2, none⟩ = some (.slice A2 x.f1.f1.length c2) ∧ w'.cell? ⟨wr.heap.size, 3, none⟩ = some (.int .i64 (u : Int)) ∧ w'.cell? ⟨wr.heap.size, 4, none⟩ = some (.int .i64 ((j : Int) - 1)) ∧ w'.cell? ⟨gF, j - 1, none⟩ = some (.int .i64 vF))
            (first | go_keep | (refine ⟨?_, ?_, ?_, ?_, ?_⟩ <;> assumption))
            (first | (go_at_call 95; (with_reducible refine (cE2.out _ hd1).mono ?_); rintro e w3 ⟨rfl, hb⟩; have HB5 := Aside0.mk (HB3.out.trans (hb.mono HB3.out.size)); have HB6 := Aside0.mk (HB4.out.trans (hb.mono HB4.out.size)); replace z1 := mvc hb z1; replace z2 := mvc hb z2; replace z3 := mvc hb z3; replace z4 := mvc hb z4; replace kF := mvc hb kF; clear hb))
           all_goals (
            go_wp2
            go_ret3
            rw [NO.out]
            exact ⟨_, _, rfl, fun a b h => by simp at h, HB6.out⟩)
         ·have NO : Aside0 (r = none) := ⟨none_.out (by unfold stepN; rw [if_neg HN12.out.1, if_neg HN12.out.2, if_pos HQ.out, if_pos (.inr (.inr (.inr (.inl (by rw [HVF.out]; exact p4)))))])⟩
          have d4 : (x.f2 != vF - 1) = true := by simp [p4]
          go_wp2_with fail
          go_quiet (fail)
          go_wp2
          go_ret3
          rw [NO.out]
          exact ⟨_, _, rfl, fun a b h => by simp at h, pw_below_drewN HB4.out _⟩
       ·have NO : Aside0 (r = none) := ⟨none_.out (by unfold stepN; rw [if_neg HN12.out.1, if_neg HN12.out.2, if_pos HQ.out, if_pos (.inr (.inl p2))])⟩
        have d2 : (x.f3 != (j : Int) - 1) = true := by simp [p2]
        go_wp2_with fail
        go_quiet (fail)
        go_wp2
        go_ret3
        rw [NO.out]
        exact ⟨_, _, rfl, fun a b h => by simp at h, pw_below_drewN HB4.out _⟩
     ·have NO : Aside0 (r = none) := ⟨none_.out (by unfold stepN; rw [if_neg (by rw [HQ.out]; exact q0), if_neg (by rw [HQ.out]; exact q1), if_neg (by rw [HQ.out]; exact q2)])⟩
      go_wp2
      go_ret3
      rw [NO.out]
      exact ⟨_, _, rfl, fun a b h => by simp at h, HB4.out⟩
  ·have hltz : ¬ (j : Int) < (n : Int) := by omega
   have HE : Aside0 (r = some (fr, dp)) := ⟨by rw [← HRR.out, HI.out.eq, List.drop_eq_nil_of_le (by rw [← HN.out]; omega)]; rfl⟩
   go_wp2
   go_ret3
   rw [HE.out]
   exact ⟨_, _, rfl, fun a b hp => by injection hp with hp; injection hp with h1 h2; subst h1 h2; exact ⟨HI.out.two.r1, HI.out.two.r2⟩, HI.out.bel⟩
end Go.Proofs.YtghommaokdhjmaaGreat.Frm
/- formula.Check, formula.From of a right formula's last node, safe.at: their walks. -/
namespace Go.Proofs.YtghommaokdhjmaaGreat.Frm
open Go.RowKit Go.Lib Go.Proofs.YtghommaokdhjmaaGreatW.PrintWords P FactC IRow
structure NRow (W : World) (A : Option Addr) (n c : Nat) (l : List S62) : Prop where
 len : l.length = n
 cap : n ≤ c
 C : Kd.C k62 W A n l
theorem NRow.below {W W' : World} {A : Option Addr} {n c : Nat} {l : List S62} (h : NRow W A n c l) (hb : Go.RowKit.Below W.heap.size W W') : NRow W' A n c l := ⟨h.len, h.cap, Kd.C_below h.C hb⟩
def fitNs (l : List S62) : Prop := (∀ x ∈ l, fitN x ∧ x.f1.f1.length ≤ 1000) ∧ l.length ≤ 100000
theorem row_cell {W : World} {b n : Nat} {v : Value} {xs : List Int} (h : IRow W b v xs) (hn : xs.length = n) (h1 : 1 ≤ n) : ∃ g c, v = .slice (some ⟨g, 0, none⟩) n c ∧ n ≤ c ∧ ∀ i, i < n → W.cell? ⟨g, i, none⟩ = some (.int .i64 (xs.getD i 0)) := by
 obtain ⟨A, c, rfl⟩ := own_slice h
 obtain ⟨h2, h3, h4⟩ := h.at
 obtain ⟨g, rfl, _, h5⟩ := h4 (by omega)
 refine ⟨g, c, by rw [hn], by omega, fun i hi => ?_⟩
 rw [h5 i (by omega), getD_get]
theorem froms_len {l : List S62} {fr dp : List Int} (h : fromsP l 0 [] [] = some (fr, dp)) : fr.length = l.length := by
 have := (froms_ok l 0 [] [] fr dp h okF_nil rfl).2.1
 omega
theorem froms_dlen : ∀ (l : List S62) (i : Nat) (fr dp fr' dp' : List Int), fromsP l i fr dp = some (fr', dp') → dp'.length = dp.length + l.length := by
 intro l
 induction l with
 | nil => intro i fr dp fr' dp' h; simp only [fromsP] at h; injection h with h; injection h with h1 h2; subst h2; rfl
 | cons x l ih =>
  intro i fr dp fr' dp' h
  simp only [fromsP] at h
  rcases hs : stepN x i fr dp with _ | ⟨a, b⟩
  ·rw [hs] at h; cases h
  ·rw [hs] at h
   have := ih _ _ _ _ _ h
   simp at this ⊢
   omega
set_option maxHeartbeats 4000000 in
set_option maxRecDepth 1000000 in
theorem check_calls {A : Option Addr} {n c : Nat} {l : List S62} {w : World} (h : NRow w A n c l) (hf : fitNs l) : Calls Tryz.prog 32 #[.slice A n c] w fun e w' => e = .returned (.int .i64 (chkN l)) ∧ Go.RowKit.Below w.heap.size w w' := by
 have hn := h.len
 have HC : Aside0 (∀ r, fromsP l 0 [] [] = r → Calls Tryz.prog 63 #[.slice A n c] w fun e w' => ∃ vf vd, e = .returned (.tuple #[vf, vd, .bool r.isSome]) ∧ (∀ a b, r = some (a, b) → IRow w' w.heap.size vf a ∧ IRow w' w.heap.size vd b) ∧ Go.RowKit.Below w.heap.size w w') := ⟨fun r hr => by subst hn; exact froms_calls A c l w h.C h.cap (fun x hx => (hf.1 x hx).1) hf.2 r hr⟩
 have HN := Aside0.mk hn
 clear h
 by_cases h1 : n < 1
 ·have h1z : decide ((n : Int) < 1) = true := by simp; omega
  have HK : chkN l = 17 := by unfold chkN; rw [if_pos (.inl (by omega))]
  rw [HK]
  clear HK hf hn
  go_enter Tryz.func32, Tryz.ntmps32
  go_wp2
  go_ret
  exact ⟨rfl, Go.RowKit.Below.refl _ _⟩
 by_cases h2 : 40 < n
 ·have h1z : decide ((n : Int) < 1) = false := by simp; omega
  have h2z : decide (40 < (n : Int)) = true := by simp; omega
  have HK : chkN l = 17 := by unfold chkN; rw [if_pos (.inr (by omega))]
  rw [HK]
  clear HK hf hn
  go_enter Tryz.func32, Tryz.ntmps32
  go_wp2
  go_ret
  exact ⟨rfl, Go.RowKit.Below.refl _ _⟩
 have h1z : decide ((n : Int) < 1) = false := by simp; omega
 have h2z : decide (40 < (n : Int)) = false := by simp; omega
 rcases hq : fromsP l 0 [] [] with _ | ⟨fr, dp⟩
 ·have HK : chkN l = 17 := by unfold chkN; rw [if_neg (by omega), hq]
  rw [HK]
  have HC1 := Aside0.mk (HC.out none hq)
  clear HK hf hn hq HC
  go_enter Tryz.func32, Tryz.ntmps32
  go_wp2_with (go_at_call 63; with_reducible refine HC1.out.mono ?_; rintro e w1 ⟨vf, vd, rfl, _, hb⟩; have HB := Aside0.mk hb; clear hb)
  go_ret
  exact ⟨rfl, HB.out⟩
 ·have HC1 := Aside0.mk (HC.out (some (fr, dp)) hq)
  have lf : fr.length = n := (froms_len hq).trans hn
  have ld : dp.length = n := by have := froms_dlen l 0 [] [] fr dp hq; simp at this; omega
  have HK : chkN l = if fr.getD (n - 1) 0 ≠ 0 ∨ 12 < dp.getD (n - 1) 0 then 17 else 0 := by unfold chkN; rw [if_neg (by omega), hq, hn]
  rw [HK]
  have HL := Aside0.mk (And.intro lf ld)
  clear HK hf hn hq HC lf ld
  have p1z : (0 : Int) ≤ (n : Int) - 1 := by omega
  have p1y : (n : Int) - 1 < (n : Int) := by omega
  have tn : ((n : Int) - 1).toNat = n - 1 := by omega
  have HV : Aside0 (∀ vf vd w1, IRow w1 w.heap.size vf fr → IRow w1 w.heap.size vd dp → ∃ g cg g' cg', vf = .slice (some ⟨g, 0, none⟩) n cg ∧ vd = .slice (some ⟨g', 0, none⟩) n cg' ∧ n ≤ cg ∧ n ≤ cg' ∧ w1.cell? ⟨g, n - 1, none⟩ = some (.int .i64 (fr.getD (n - 1) 0)) ∧ w1.cell? ⟨g', n - 1, none⟩ = some (.int .i64 (dp.getD (n - 1) 0))) := ⟨fun vf vd w1 i1 i2 => by
   obtain ⟨g, cg, e1, k1, j1⟩ := row_cell i1 HL.out.1 (by omega)
   obtain ⟨g', cg', e2, k2, j2⟩ := row_cell i2 HL.out.2 (by omega)
   exact ⟨g, cg, g', cg', e1, e2, k1, k2, j1 _ (by omega), j2 _ (by omega)⟩⟩
  generalize fr.getD (n - 1) 0 = v1 at HV ⊢
  generalize dp.getD (n - 1) 0 = v2 at HV ⊢
  by_cases q1 : v1 = 0
  ·subst q1
   by_cases q2 : 12 < v2
   ·have q2z : decide (12 < v2) = true := decide_eq_true q2
    rw [if_pos (.inr q2)]
    go_enter Tryz.func32, Tryz.ntmps32
    go_wp2_with (go_at_call 63; with_reducible refine HC1.out.mono ?_; rintro e w1 ⟨vf, vd, rfl, hI, hb⟩; obtain ⟨g, cg, g', cg', rfl, rfl, k1, k2, k3, k4⟩ := HV.out vf vd w1 (hI fr dp rfl).1 (hI fr dp rfl).2; have HB := Aside0.mk hb; clear hb hI)
    go_ret
    exact ⟨rfl, HB.out⟩
   ·have q2z : decide (12 < v2) = false := decide_eq_false q2
    rw [if_neg (by rintro (h | h); exact h rfl; exact q2 h)]
    go_enter Tryz.func32, Tryz.ntmps32
    go_wp2_with (go_at_call 63; with_reducible refine HC1.out.mono ?_; rintro e w1 ⟨vf, vd, rfl, hI, hb⟩; obtain ⟨g, cg, g', cg', rfl, rfl, k1, k2, k3, k4⟩ := HV.out vf vd w1 (hI fr dp rfl).1 (hI fr dp rfl).2; have HB := Aside0.mk hb; clear hb hI)
    go_ret
    exact ⟨rfl, HB.out⟩
  ·have q1z : (v1 != 0) = true := by simp [q1]
   rw [if_pos (.inl q1)]
   go_enter Tryz.func32, Tryz.ntmps32
   go_wp2_with (go_at_call 63; with_reducible refine HC1.out.mono ?_; rintro e w1 ⟨vf, vd, rfl, hI, hb⟩; obtain ⟨g, cg, g', cg', rfl, rfl, k1, k2, k3, k4⟩ := HV.out vf vd w1 (hI fr dp rfl).1 (hI fr dp rfl).2; have HB := Aside0.mk hb; clear hb hI)
   go_ret
   exact ⟨rfl, HB.out⟩
theorem chk_froms {l : List S62} (h : chkN l = 0) : ∃ fr dp, fromsP l 0 [] [] = some (fr, dp) ∧ fr.getD (l.length - 1) 0 = 0 ∧ 1 ≤ l.length ∧ l.length ≤ 40 := by
 unfold chkN at h
 split at h
 ·cases h
 ·split at h
  ·cases h
  ·rename_i hn fr dp hq
   split at h
   ·cases h
   ·exact ⟨fr, dp, hq, by omega, by omega, by omega⟩
set_option maxHeartbeats 4000000 in
set_option maxRecDepth 1000000 in
theorem from_calls {A : Option Addr} {n c : Nat} {l : List S62} {w : World} (h : NRow w A n c l) (hf : fitNs l) (hk : chkN l = 0) : Calls Tryz.prog 97 #[.slice A n c, .int .i64 ((n : Int) - 1)] w fun e w' => e = .returned (.int .i64 0) ∧ Go.RowKit.Below w.heap.size w w' := by
 obtain ⟨fr, dp, hq, h0, h1, h2⟩ := chk_froms hk
 have hn := h.len
 rw [hn] at h0 h1 h2
 have lf : fr.length = n := (froms_len hq).trans hn
 have HK : Aside0 (Calls Tryz.prog 32 #[.slice A n c] w fun e w' => e = .returned (.int .i64 0) ∧ Go.RowKit.Below w.heap.size w w') := ⟨hk ▸ check_calls h hf⟩
 have HC : Aside0 (∀ W, Go.RowKit.Below w.heap.size w W → Calls Tryz.prog 63 #[.slice A n c] W fun e w' => ∃ vf vd, e = .returned (.tuple #[vf, vd, .bool true]) ∧ IRow w' W.heap.size vf fr ∧ Go.RowKit.Below W.heap.size W w') := ⟨fun W hW => by
  have h2 := h.below hW
  subst hn
  refine (froms_calls A c l W h2.C h2.cap (fun x hx => (hf.1 x hx).1) hf.2 _ hq).mono ?_
  rintro e w' ⟨vf, vd, rfl, hI, hb⟩
  exact ⟨vf, vd, rfl, (hI fr dp rfl).1, hb⟩⟩
 have HL := Aside0.mk lf
 have HZ := Aside0.mk h0
 clear h hf hk hq hn lf h0
 have p1z : (0 : Int) ≤ (n : Int) - 1 := by omega
 have p1y : (n : Int) - 1 < (n : Int) := by omega
 have d1 : decide ((n : Int) - 1 < 0) = false := by simp; omega
 have d2 : decide ((n : Int) ≤ (n : Int) - 1) = false := by simp; omega
 have tn : ((n : Int) - 1).toNat = n - 1 := by omega
 go_enter Tryz.func97, Tryz.ntmps97
 go_wp2_with (first
  | (go_at_call 32; with_reducible refine HK.out.mono ?_; rintro e w1 ⟨rfl, hb⟩; have HB := Aside0.mk hb; clear hb)
  | (go_at_call 63; with_reducible refine (HC.out _ HB.out).mono ?_; rintro e w2 ⟨vf, vd, rfl, hI, hb⟩; obtain ⟨g, cg, rfl, k1, k2⟩ := row_cell hI HL.out h1; replace k2 := k2 (n - 1) (by omega); rw [HZ.out] at k2; have HB2 := Aside0.mk (HB.out.trans (hb.mono HB.out.size)); clear hb hI)
  | fail)
 go_ret
 exact ⟨rfl, HB2.out⟩
set_option maxHeartbeats 4000000 in
set_option maxRecDepth 1000000 in
theorem at_calls {A : Option Addr} {n c : Nat} {l : List S62} {w : World} (h : NRow w A n c l) (hf : fitNs l) : Calls Tryz.prog 65 #[.slice A n c, .int .i64 ((n : Int) - 1)] w fun e w' => e = .returned (.bool (decide (chkN l = 0))) ∧ Go.RowKit.Below w.heap.size w w' := by
 have HK : Aside0 (Calls Tryz.prog 32 #[.slice A n c] w fun e w' => e = .returned (.int .i64 (chkN l)) ∧ Go.RowKit.Below w.heap.size w w') := ⟨check_calls h hf⟩
 by_cases hk : chkN l = 0
 ·obtain ⟨fr, dp, hq, h0, h1, h2⟩ := chk_froms hk
  rw [h.len] at h1
  rw [hk] at HK ⊢
  clear h hf hk hq h0 h2
  have d1 : decide ((0 : Int) ≤ (n : Int) - 1) = true := by simp; omega
  have d2 : decide ((n : Int) - 1 < (n : Int)) = true := by simp; omega
  go_enter Tryz.func65, Tryz.ntmps65
  go_wp2_with (go_at_call 32; with_reducible refine HK.out.mono ?_; rintro e w1 ⟨rfl, hb⟩; have HB := Aside0.mk hb; clear hb)
  go_ret
  exact ⟨rfl, HB.out⟩
 ·rw [decide_eq_false hk]
  have d0 : (chkN l == 0) = false := by simp [hk]
  have d0' : decide (chkN l = 0) = false := by simp [hk]
  clear h hf
  generalize chkN l = k at *
  go_enter Tryz.func65, Tryz.ntmps65
  go_wp2_with (go_at_call 32; with_reducible refine HK.out.mono ?_; rintro e w1 ⟨rfl, hb⟩; have HB := Aside0.mk hb; clear hb)
  go_ret
  exact ⟨rfl, HB.out⟩
end Go.Proofs.YtghommaokdhjmaaGreat.Frm
/- slices.Sort and slices.Compact of []string, by the shelf: over a row of the call's own. What is told of them: the same strings, in some order; fewer, each still there. -/
namespace Go.Proofs.YtghommaokdhjmaaGreat.SortStr
open Go.Shelf Go.RowKit Go.Lib Go.Sort Go.Proofs
def renS : Ren := ⟨fun x => if x = 190 then 98 else if x = 194 then 99 else if x = 125 then 121 else if x = 258 then 120 else if x = 128 then 142 else if x = 129 then 143 else if x = 302 then 133 else if x = 303 then 134 else if x = 304 then 135 else if x = 305 then 136 else if x = 306 then 137 else if x = 307 then 138 else if x = 308 then 139 else if x = 309 then 140 else if x = 310 then 141 else if x = 333 then 151 else if x = 329 then 152 else if x = 330 then 153 else if x = 334 then 154 else if x = 335 then 155 else if x = 336 then 156 else if x = 344 then 159 else x,
 fun x => if x = 31 then 70 else if x = 9 then 9 else if x = 3 then 3 else if x = 46 then 50 else if x = 0 then 0 else if x = 51 then 150 else if x = 53 then 152 else if x = 4 then 4 else if x = 183 then 142 else if x = 182 then 141 else if x = 131 then 147 else if x = 5 then 5 else if x = 218 then 158 else if x = 222 then 162 else if x = 228 then 164 else if x = 229 then 165 else x, fun x => x⟩
set_option maxRecDepth 1000000 in
theorem laysS : Lays.n190 Tryz.prog renS := by
 constructor <;> first | kernel_rfl | (intro w; kernel_rfl)
set_option maxRecDepth 1000000 in
theorem laysC : Lays.n194 Tryz.prog renS := by
 constructor <;> first | kernel_rfl | (intro w; kernel_rfl)
theorem sortStr (b : Nat) (v : Value) (ss : List (List UInt8)) (w : World) (ho : w.ownsRow b 9 1 v ss.length (ss.map encStr)) (hb : b ≤ w.heap.size) (hl : ss.length ≤ 1000000) :
  Calls Tryz.prog 98 #[v] w fun e w' => e = .returned (.tuple #[]) ∧ (∃ ts : List (List UInt8), ts.Perm ss ∧ w'.ownsRow b 9 1 v ts.length (ts.map encStr)) ∧ Go.RowKit.Below b w w' := by
 rcases ho.2 with ⟨rfl, hn⟩ | ⟨g, cap, cur, rfl, hbase, hg, h1, h2, h3, h4⟩
 ·obtain rfl : ss = [] := List.length_eq_zero_iff.1 hn
  refine (Any.slices_Sort_string_none laysS none 0 w).mono ?_
  rintro e w' ⟨rfl, rfl⟩
  exact ⟨rfl, ⟨[], List.Perm.refl _, ho⟩, Go.RowKit.Below.refl _ _⟩
 ·have h := Any.slices_Sort_string laysS g 0 cap ss w (holds_of_block hg (by simpa using h4)) (Array.getElem?_eq_some_iff.1 hg).1 (by omega)
  refine h.mono ?_
  rintro e w' ⟨rfl, n, os, rfl⟩
  have hlen : (ss.mergeSort fun x y => decide (x ≤ y)).length = ss.length := by simp
  refine ⟨rfl, ⟨ss.mergeSort fun x y => decide (x ≤ y), List.mergeSort_perm ss _, ?_⟩, (Go.RowKit.Below.refl b w).grown (grownBy_sorted _) hb (fun k hk => by injection hk with hk; omega)⟩
  rw [hlen]
  exact ownsRow_sorted hlen hbase hg h1 h2 h3
theorem take_own {w : World} {base n m c size : Nat} {e : TypeId} {A : Option Addr} {xs : List Value} (h : w.ownsRow base e size (.slice A n c) n xs) (hm : m ≤ n) : w.ownsRow base e size (.slice A m c) m (xs.take (m * size)) := Go.Proofs.YtghommaokdhjmaaGreatW.PrintWords.own_take h hm
theorem grow_none (W : World) : grow W #[] = W := by simp [grow]
theorem compact_len (zs : List (List UInt8)) : (Lib.compact zs).length ≤ zs.length := by
 unfold Lib.compact Lib.compactUpTo
 rw [List.length_map]
 refine Nat.le_trans (List.length_filter_le _ _) ?_
 rw [List.length_range]
 exact Nat.le_refl _
theorem compact_mem (zs : List (List UInt8)) (x : List UInt8) : x ∈ Lib.compact zs ↔ x ∈ zs := by
 have get : ∀ j, j < zs.length → zs.toArray[j]! = zs[j]! := fun j hj => by simp
 unfold Lib.compact Lib.compactUpTo
 rw [List.mem_map]
 constructor
 ·rintro ⟨j, hj, rfl⟩
  rw [List.mem_filter, List.mem_range] at hj
  rw [get j hj.1, List.getElem!_eq_getElem?_getD, List.getElem?_eq_getElem hj.1]
  exact List.getElem_mem hj.1
 ·intro hx
  obtain ⟨j, hj, rfl⟩ := List.getElem_of_mem hx
  have key : ∀ j (hj : j < zs.length), ∃ i, i ∈ (List.range zs.length).filter (Lib.keeps zs.toArray) ∧ zs.toArray[i]! = zs[j] := by
   intro j
   induction j with
   | zero =>
    intro hj
    refine ⟨0, List.mem_filter.2 ⟨List.mem_range.2 hj, Lib.keeps_lt_one _ 0 (by omega)⟩, ?_⟩
    rw [get 0 hj, List.getElem!_eq_getElem?_getD, List.getElem?_eq_getElem hj]; rfl
   | succ j ih =>
    intro hj
    by_cases e : zs.toArray[j + 1]! = zs.toArray[j + 1 - 1]!
    ·obtain ⟨i, h1, h2⟩ := ih (by omega)
     refine ⟨i, h1, h2.trans ?_⟩
     have e2 : zs[j + 1]! = zs[j]! := by rw [← get _ hj, ← get _ (by omega)]; exact e
     rw [List.getElem!_eq_getElem?_getD, List.getElem!_eq_getElem?_getD, List.getElem?_eq_getElem hj, List.getElem?_eq_getElem (by omega)] at e2
     exact e2.symm
    ·refine ⟨j + 1, List.mem_filter.2 ⟨List.mem_range.2 hj, Lib.keeps_pos e⟩, ?_⟩
     rw [get _ hj, List.getElem!_eq_getElem?_getD, List.getElem?_eq_getElem hj]; rfl
  exact key j hj
theorem compactStr (b : Nat) (v : Value) (ss : List (List UInt8)) (w : World) (ho : w.ownsRow b 9 1 v ss.length (ss.map encStr)) (hb : b ≤ w.heap.size) (hl : ss.length ≤ 1000000) :
  Calls Tryz.prog 99 #[v] w fun e w' => (∃ (u : Value) (ts : List (List UInt8)), e = .returned u ∧ (∀ x, x ∈ ts ↔ x ∈ ss) ∧ ts.length ≤ ss.length ∧ w'.ownsRow b 9 1 u ts.length (ts.map encStr)) ∧ Go.RowKit.Below b w w' := by
 rcases ho.2 with ⟨rfl, hn⟩ | ⟨g, cap, cur, rfl, hbase, hg, h1, h2, h3, h4⟩
 ·obtain rfl : ss = [] := List.length_eq_zero_iff.1 hn
  refine (Any.slices_Compact_string_empty laysC none 0 w).mono ?_
  rintro e w' ⟨rfl, rfl⟩
  exact ⟨⟨_, [], rfl, fun x => Iff.rfl, Nat.le_refl _, ho⟩, Go.RowKit.Below.refl _ _⟩
 ·have hH : Holds encStr w g 0 ss.toArray := holds_of_block hg (by simpa using h4)
  refine (Any.slices_Compact_string laysC g 0 cap ss w hH (by omega) h1).mono ?_
  rintro e w' ⟨rfl, q, rfl⟩
  have hle : (Lib.compact ss).length ≤ ss.length := compact_len ss
  refine ⟨⟨_, Lib.compact ss, rfl, compact_mem ss, hle, ?_⟩, ?_⟩
  ·have h5 := ownsRow_sorted (n := q) (os := #[]) (ts := Lib.compact ss ++ List.replicate (ss.length - (Lib.compact ss).length) []) (ss := ss) (by simp; omega) hbase hg h1 h2 h3
   rw [grow_none] at h5
   have h7 := take_own h5 hle
   rwa [Nat.mul_one, ← List.map_take, List.take_left'] at h7
   rfl
  ·have h6 := grownBy_sorted (w := w) (g := g) (n := q) (os := #[]) (Lib.compact ss ++ List.replicate (ss.length - (Lib.compact ss).length) []).toArray
   rw [grow_none] at h6
   exact (Go.RowKit.Below.refl b w).grown h6 hb (fun k hk => by injection hk with hk; omega)
end Go.Proofs.YtghommaokdhjmaaGreat.SortStr
/- safe.Vars of a right formula's last node: the variables of its atoms. -/
namespace Go.Proofs.YtghommaokdhjmaaGreat.Frm
open Go.RowKit Go.Lib Go.Sort Go.Proofs.SymP Go.Proofs.YtghommaokdhjmaaGreatW.PrintWords P FactC IRow SortStr
def SRow (W : World) (b : Nat) (v : Value) (xs : List ByteArray) : Prop := W.ownsRow b 9 1 v xs.length (xs.map Value.string)
theorem SRow.below {W W' : World} {b : Nat} {v : Value} {xs : List ByteArray} (h : SRow W b v xs) (hb : Go.RowKit.Below W.heap.size W W') : SRow W' b v xs := own_move h (fun k hk => hb.block k (own_lt h k hk))
theorem SRow.of {W : World} {b : Nat} {ok : Nat → Prop} {v : Value} {xs : List ByteArray} (h : Kd.R Kd.string 9 W b ok v xs) : SRow W b v xs := Kd.own_of_R h
theorem SRow.enc {W : World} {b : Nat} {v : Value} {xs : List ByteArray} (h : SRow W b v xs) : W.ownsRow b 9 1 v (xs.map (·.data.toList)).length ((xs.map (·.data.toList)).map encStr) := by
 rw [List.length_map, List.map_map]
 have : (encStr ∘ fun x : ByteArray => x.data.toList) = Value.string := funext fun x => by simp
 rw [this]
 exact h
theorem appendS {W : World} (b b' : Nat) (u v : Value) (xs ys : List ByteArray) (h : SRow W b u xs) (hy : SRow W b' v ys) (hb : b ≤ W.heap.size) (hl : xs.length + ys.length ≤ 1000000) :
  ∃ A' c' w', (∀ ty, (Builtin.append_ #[70, 70] ty #[u, v]).run Tryz.prog W = .ok (.slice A' (xs.length + ys.length) c') w') ∧ SRow w' b (.slice A' (xs.length + ys.length) c') (xs ++ ys) ∧ Go.RowKit.Below b W w' := by
 have hin := info9
 rcases hinf : Tryz.prog.info? 9 with _ | i
 ·rw [hinf] at hin; cases hin
 ·rw [hinf] at hin
  simp only [Option.map_some, Option.some.injEq, Prod.mk.injEq] at hin
  obtain ⟨hz, hsz, hby⟩ := hin
  have ht : Tryz.prog.underlying 70 = some (.slice 9) := Tryz.underlying70
  rcases hy.2 with ⟨rfl, h0⟩ | ⟨g, cap, cur, rfl, _, hg, hn, hm, hs, htk⟩
  ·obtain rfl : ys = [] := List.length_eq_zero_iff.1 h0
   obtain ⟨A', c', rfl⟩ := own_slice h
   exact ⟨A', c', W, fun ty => run_append_owned_none W b 70 ty 9 i 1 ht hinf _ _ _ h, by rw [List.append_nil]; exact h, Go.RowKit.Below.refl _ _⟩
  ·obtain ⟨u', w', hr, ho, hgr, _, _⟩ := run_append_own_at (P := Tryz.prog) W b 70 0 9 i _ 1 16 ht hinf hz hsz hby (by rfl) (by decide) u xs.length (xs.map Value.string) h ⟨g, 0, none⟩ ys.length cap (ys.map Value.string) (by simp) (fun j v hv => hy.cells rfl j v hv) (fun v hv => by
    obtain ⟨x, _, rfl⟩ := List.mem_map.1 hv; rfl) (by unfold maxLen; omega) (by omega) hb
   obtain ⟨A', c', rfl⟩ := own_slice ho
   refine ⟨A', c', w', fun ty => hr, ?_, (Go.RowKit.Below.refl b W).grown hgr hb (fun k hk => (h.lt k hk).1)⟩
   unfold SRow
   rw [List.length_append, List.map_append]
   exact ho
def varsN (l : List S62) : List ByteArray := l.flatMap (fun x => SpecM.varsL [] x.f1.f1)
theorem varsL_len (ts : List S92) : ∀ acc : List ByteArray, (SpecM.varsL acc ts).length ≤ acc.length + ts.length := by
 induction ts with
 | nil => intro acc; simp [SpecM.varsL]
 | cons t ts ih =>
  intro acc
  simp only [SpecM.varsL]
  split
  ·have := ih acc; simp; omega
  ·split
   ·have := ih acc; simp; omega
   ·have := ih (acc ++ [t.f0]); simp at this ⊢; omega
set_option maxHeartbeats 8000000 in
set_option maxRecDepth 1000000 in
theorem vars_calls {A : Option Addr} {n c : Nat} {l : List S62} {w : World} (h : NRow w A n c l) (hf : fitNs l) (hk : chkN l = 0) :
  Calls Tryz.prog 66 #[.agg #[.slice A n c], .int .i64 ((n : Int) - 1)] w fun e w' => (∃ (u : Value) (ts : List (List UInt8)), e = .returned u ∧ (∀ x, x ∈ ts ↔ x ∈ (varsN l).map (·.data.toList)) ∧ ts.length ≤ 1000000 ∧ w'.ownsRow w.heap.size 9 1 u ts.length (ts.map encStr)) ∧ Go.RowKit.Below w.heap.size w w' := by
 have hu := Tryz.underlying62
 have hn := h.len
 have hk2 := chk_inL hk
 have hn1 : 1 ≤ n := by have := List.length_pos_iff.2 hk2.2.1; omega
 have hn2 : n ≤ 40 := by omega
 have hcap := h.cap
 have HFr : Aside0 (∀ W, Go.RowKit.Below w.heap.size w W → Calls Tryz.prog 97 #[.slice A n c, .int .i64 ((n : Int) - 1)] W fun e w' => e = .returned (.int .i64 0) ∧ Go.RowKit.Below W.heap.size W w') := ⟨fun W hW => from_calls (h.below hW) hf hk⟩
 have HR := Aside0.mk h
 have HF := Aside0.mk hf
 have HN := Aside0.mk hn
 obtain ⟨ad, hA, _⟩ := h.C.2.2 (by omega)
 subst hA
 clear h hf hk hk2 hn
 have kw : IntKind.i64.wrap ((n : Int) - 1 + 1) = (n : Int) := by rw [show (n : Int) - 1 + 1 = n by omega]; exact kwrap (by omega) (by omega)
 have kw' : IntKind.i64.wrap (n : Int) = (n : Int) := kwrap (by omega) (by omega)
 go_enter Tryz.func66, Tryz.ntmps66
 go_wp2
 refine wp_world (fun W => W.cell? ⟨w.heap.size, 0, none⟩ = some (.slice (some ad) n c) ∧ Go.RowKit.Below w.heap.size w W) ⟨by simp, (Go.RowKit.Below.refl _ w).alloc (Nat.le_refl _) _⟩ ?_
 rintro w0 ⟨z0, hb0⟩
 have hd1 : Go.RowKit.Below w0.heap.size w0 w0.drew := below_drew1 (Go.RowKit.Below.refl _ _)
 have hF2 : Aside0 (∀ W, Go.RowKit.Below w0.heap.size w0 W → Calls Tryz.prog 97 #[.slice (some ad) n c, .int .i64 ((n : Int) - 1)] W fun e w' => e = .returned (.int .i64 0) ∧ Go.RowKit.Below w0.heap.size w0 w') := ⟨fun W hW => (HFr.out W (hb0.trans (hW.mono hb0.size))).mono fun e w' h => ⟨h.1, hW.trans (h.2.mono hW.size)⟩⟩
 have HB0 := Aside0.mk hb0
 clear hb0 HFr
 have nz : (0 : Int) ≤ (n : Int) := by omega
 have ncz : (n : Int) ≤ (c : Int) := by omega
 go_region_held3 (fun w' => w'.cell? ⟨w.heap.size, 0, none⟩ = some (.slice (some ad) n c)) (first | go_keep | assumption)
  (first
   | (go_at_call 97; (with_reducible refine (hF2.out _ hd1).mono ?_); rintro e w1 ⟨rfl, hb⟩; replace z0 := mvc hb z0; have HB1 := Aside0.mk (HB0.out.trans (hb.mono HB0.out.size)); clear hb)
   | fail)
 all_goals go_wp2
 clear z0 hd1 kw kw' nz
 have HF2' := Aside0.mk True.intro
 clear hF2
 go_loopg [5, 18] n (fun gg s5 s18 wr => ∃ (B : Option Addr) (cb : Nat) (xs : List ByteArray) (j : Nat), s5 = .slice B xs.length cb ∧ s18 = .int .i64 j ∧ j ≤ n ∧ n - j ≤ gg ∧ Aside0 (xs = varsN (l.take j) ∧ xs.length ≤ 1000 * j ∧ SRow wr w.heap.size (.slice B xs.length cb) xs ∧ Go.RowKit.Below w.heap.size w wr))
 case atStart => exact ⟨none, 0, [], 0, rfl, rfl, Nat.zero_le _, Nat.le_refl _, ⟨rfl, Nat.zero_le _, own_nil _ _ _ _, HB1.out⟩⟩
 case round =>
  obtain ⟨B, cb, xs, j, rfl, rfl, hj, hg, HI⟩ := hrel
  by_cases hlt : j < n
  ·have hltz : (j : Int) < (n : Int) := by omega
   have hj2 : j < l.length := by rw [HN.out]; exact hlt
   obtain ⟨ad', A2, c2, eA, y0, y1, y2, y3, y4, y5, y6⟩ := at_T62 (Kd.C_below HR.out.C HI.out.2.2.2) (j : Int) (by omega) hltz
   obtain rfl : ad = ad' := Option.some.inj eA
   rw [rd62_get hj2] at y0 y1 y2 y3 y4 y5 y6
   have HX := Aside0.mk (HF.out.1 l[j] (List.getElem_mem hj2))
   have HD : Aside0 (varsN (l.take (j + 1)) = varsN (l.take j) ++ SpecM.varsL [] l[j].f1.f1) := ⟨by unfold varsN; rw [List.take_succ_eq_append_getElem hj2, List.flatMap_append]; simp⟩
   generalize l[j] = x at *
   rw [show ((j : Int)).toNat * 5 = j * 5 by omega] at y0 y1 y2 y3 y4
   have hb1 : Go.RowKit.Below w.heap.size w (wr.alloc (.cells #[.int .i64 x.f0, .string x.f1.f0, .slice A2 x.f1.f1.length c2, .int .i64 x.f2, .int .i64 x.f3] 62)) := HI.out.2.2.2.alloc HI.out.2.2.2.size _
   have hW : Go.RowKit.Below wr.heap.size wr (wr.alloc (.cells #[.int .i64 x.f0, .string x.f1.f0, .slice A2 x.f1.f1.length c2, .int .i64 x.f2, .int .i64 x.f3] 62)) := (Go.RowKit.Below.refl _ wr).alloc (Nat.le_refl _) _
   have hlen := varsL_len x.f1.f1 []
   have cV : Aside0 (∀ W, Go.RowKit.Below wr.heap.size wr W → Calls Tryz.prog 71 #[.agg #[.string x.f1.f0, .slice A2 x.f1.f1.length c2]] W fun e w' => ∃ v, e = .returned v ∧ SRow w' W.heap.size v (SpecM.varsL [] x.f1.f1) ∧ Go.RowKit.Below W.heap.size W w') := ⟨fun W hW => by
    obtain ⟨k, hk⟩ := (SpecM.ev_vars x.f1.f0 (ts := x.f1.f1) (by have := HX.out.2; omega)).rounds
    refine (match_Vars.calls k x.f1.f0 A2 c2 x.f1.f1 _ W (Kd.C_below y6 hW) y5 hk).mono ?_
    rintro e w' ⟨v, rfl, hR, hb⟩
    exact ⟨v, rfl, SRow.of hR, hb⟩⟩
   have hl1 : xs.length + (SpecM.varsL [] x.f1.f1).length ≤ 1000000 := by have := HX.out.2; have := HI.out.2.1; simp at hlen; omega
   go_upto_region 5 with fail
   refine wp_world (fun W => W.cell? ⟨wr.heap.size, 1, none⟩ = some (.string x.f1.f0) ∧ W.cell? ⟨wr.heap.size, 2, none⟩ = some (.slice A2 x.f1.f1.length c2) ∧ Go.RowKit.Below wr.heap.size wr W ∧ Go.RowKit.Below w.heap.size w W) ⟨by simp, by simp, hW, hb1⟩ ?_
   clear hW hb1 y0 y1 y2 y3 y4 y5 y6
   rintro w2 ⟨z1, z2, hb1, hb2⟩
   have HB2 := Aside0.mk (And.intro hb1 hb2)
   clear hb1 hb2
   go_wp2_with (first
    | (go_at_call 71; with_reducible refine (cV.out _ HB2.out.1).mono ?_; rintro e w3 ⟨v, rfl, hS, hb⟩; have HB3 := Aside0.mk (And.intro (HB2.out.1.trans (hb.mono HB2.out.1.size)) (HB2.out.2.trans (hb.mono HB2.out.2.size))); have HS := Aside0.mk hS; clear hb hS)
    | (at_builtin; obtain ⟨A', c', w5, happ, hS2, hb2⟩ := appendS (W := w3) w.heap.size w2.heap.size (.slice B xs.length cb) v xs (SpecM.varsL [] x.f1.f1) (HI.out.2.2.1.below HB3.out.1) HS.out HB3.out.2.size hl1; refine Lib.wpList_append_run _ (by rfl) (.tmp 22) (.tmp 25) 70 70 (by rfl) (.slice B xs.length cb) v (by rfl) (by rfl) (.slice A' (xs.length + (SpecM.varsL [] x.f1.f1).length) c') w5 (happ 70) ?_; have HS2 := Aside0.mk hS2; have HB5 := Aside0.mk (HB3.out.2.trans hb2); clear hS2 hb2 happ)
    | fail)
   go_roundg (n - (j + 1))
   case measure => omega
   case rel => exact ⟨A', c', xs ++ SpecM.varsL [] x.f1.f1, j + 1, by rw [List.length_append], by go_num, by omega, by omega, ⟨by rw [HD.out, HI.out.1], by have := HX.out.2; have := HI.out.2.1; simp at hlen ⊢; omega, by rw [List.length_append]; exact HS2.out, HB5.out⟩⟩
  ·have hltz : ¬ (j : Int) < (n : Int) := by omega
   have hx : xs = varsN l := by rw [HI.out.1, List.take_of_length_le (by rw [HN.out]; omega)]
   have hl1 : xs.length ≤ 1000000 := by have := HI.out.2.1; omega
   have cS : Aside0 (Calls Tryz.prog 98 #[.slice B xs.length cb] wr fun e w' => e = .returned (.tuple #[]) ∧ (∃ ts : List (List UInt8), ts.Perm (xs.map (·.data.toList)) ∧ w'.ownsRow w.heap.size 9 1 (.slice B xs.length cb) ts.length (ts.map encStr)) ∧ Go.RowKit.Below w.heap.size wr w') := ⟨sortStr w.heap.size _ _ wr HI.out.2.2.1.enc HI.out.2.2.2.size (by simpa using hl1)⟩
   have HX := Aside0.mk hx
   clear hx
   go_wp2_with (first
    | (go_at_call 98; with_reducible refine cS.out.mono ?_; rintro e w3 ⟨rfl, ⟨ts, hp, ho⟩, hb⟩; have HO := Aside0.mk (And.intro hp ho); have HB3 := Aside0.mk (HI.out.2.2.2.trans hb); clear hb hp ho)
    | (go_at_call 99; with_reducible refine (compactStr w.heap.size _ _ _ HO.out.2 HB3.out.size (by rw [HO.out.1.length_eq]; simpa using hl1)).mono ?_; rintro e w4 ⟨⟨u, us, rfl, hm, hle, ho⟩, hb⟩; have HU := Aside0.mk (And.intro hm (And.intro hle ho)); have HB4 := Aside0.mk (HB3.out.trans hb); clear hb hm hle ho)
    | fail)
   go_ret
   refine ⟨⟨_, us, rfl, fun y => ?_, ?_, HU.out.2.2⟩, HB4.out⟩
   ·rw [HU.out.1 y, HO.out.1.mem_iff, HX.out]
   ·have h1 := HU.out.2.1
    rw [HO.out.1.length_eq, List.length_map] at h1
    omega
set_option maxHeartbeats 4000000 in
set_option maxRecDepth 1000000 in
theorem safeVars_calls {A : Option Addr} {n c : Nat} {l : List S62} {w : World} (h : NRow w A n c l) (hf : fitNs l) (hk : chkN l = 0) :
  Calls Tryz.prog 35 #[.slice A n c, .int .i64 ((n : Int) - 1)] w fun e w' => (∃ (u : Value) (ts : List (List UInt8)), e = .returned u ∧ (∀ x, x ∈ ts ↔ x ∈ (varsN l).map (·.data.toList)) ∧ ts.length ≤ 1000000 ∧ w'.ownsRow w.heap.size 9 1 u ts.length (ts.map encStr)) ∧ Go.RowKit.Below w.heap.size w w' := by
 have H1 : Aside0 (Calls Tryz.prog 65 #[.slice A n c, .int .i64 ((n : Int) - 1)] w fun e w' => e = .returned (.bool true) ∧ Go.RowKit.Below w.heap.size w w') := ⟨by have := at_calls h hf; rwa [decide_eq_true hk] at this⟩
 have H2 : Aside0 (∀ W, Go.RowKit.Below w.heap.size w W → Calls Tryz.prog 66 #[.agg #[.slice A n c], .int .i64 ((n : Int) - 1)] W fun e w' => (∃ (u : Value) (ts : List (List UInt8)), e = .returned u ∧ (∀ x, x ∈ ts ↔ x ∈ (varsN l).map (·.data.toList)) ∧ ts.length ≤ 1000000 ∧ w'.ownsRow W.heap.size 9 1 u ts.length (ts.map encStr)) ∧ Go.RowKit.Below W.heap.size W w') := ⟨fun W hW => vars_calls (h.below hW) hf hk⟩
 clear h hf hk
 go_enter Tryz.func35, Tryz.ntmps35
 go_wp2_with (first
  | (go_at_call 65; with_reducible refine H1.out.mono ?_; rintro e w1 ⟨rfl, hb⟩; have HB := Aside0.mk hb; clear hb)
  | (go_at_call 66; with_reducible refine (H2.out _ HB.out).mono ?_; rintro e w2 ⟨⟨u, ts, rfl, hm, hl, ho⟩, hb⟩; have HB2 := Aside0.mk (HB.out.trans (hb.mono HB.out.size)); have HU := Aside0.mk (And.intro hm (And.intro hl (own_weaken ho HB.out.size))); clear hb hm hl ho)
  | fail)
 go_ret
 exact ⟨⟨_, ts, rfl, HU.out⟩, HB2.out⟩
end Go.Proofs.YtghommaokdhjmaaGreat.Frm
/- strings.Compare in the printed texts' form; no condition. -/
namespace Go.Proofs.YtghommaokdhjmaaGreat.P
open Go.RowKit Go.Proofs.YtghommaokdhjmaaGreatW.PrintWords Str
end Go.Proofs.YtghommaokdhjmaaGreat.P
namespace Go.Proofs.YtghommaokdhjmaaGreat.P
open Go.RowKit Go.Proofs.YtghommaokdhjmaaGreatW.PrintWords Go.Proofs.YtghommaokdhjmaaGreatW.PrintLast Gate
def cmp_isNaN_int.f (a0 : Int) : Option (Bool) := some (a0 != a0)
set_option maxHeartbeats 8000000 in
set_option maxRecDepth 100000 in
theorem cmp_isNaN_int.calls (a0 : Int) (r : Bool) (w : World) (h : cmp_isNaN_int.f a0 = some r) :
  Calls Tryz.prog 157 #[.int .i64 a0] w fun e w' => e = .returned (.bool r) ∧ Drawn0 w w' := by
 have H : (some (a0 != a0)) = some r := h
 clear h
 obtain rfl := Option.some.inj H
 go_enter Tryz.func157, Tryz.ntmps157
 go_wp2
 go_ret
 exact drz
def cmp_Compare_int.f (a0 : Int) (a1 : Int) : Option (Int) := (cmp_isNaN_int.f a0).bind fun t339 => ((cmp_isNaN_int.f a1).bind fun t340 => (if t339 = true then (if t340 = true then (some 0) else (some (-1))) else (if t340 = true then (some 1) else (if a0 < a1 then (some (-1)) else (if a0 > a1 then (some 1) else (some 0))))))
set_option maxHeartbeats 8000000 in
set_option maxRecDepth 100000 in
theorem cmp_Compare_int.calls (a0 : Int) (a1 : Int) (r : Int) (w : World) (h : cmp_Compare_int.f a0 a1 = some r) :
  Calls Tryz.prog 145 #[.int .i64 a0, .int .i64 a1] w fun e w' => e = .returned (.int .i64 r) ∧ Drawn0 w w' := by
 have H : ((cmp_isNaN_int.f a0).bind fun t339 => ((cmp_isNaN_int.f a1).bind fun t340 => (if t339 = true then (if t340 = true then (some 0) else (some (-1))) else (if t340 = true then (some 1) else (if a0 < a1 then (some (-1)) else (if a0 > a1 then (some 1) else (some 0))))))) = some r := h
 clear h
 replace H := Option.bind_eq_some_iff.mp H
 obtain ⟨t339, A30, H⟩ := H
 replace H : ((cmp_isNaN_int.f a1).bind fun t340 => (if t339 = true then (if t340 = true then (some 0) else (some (-1))) else (if t340 = true then (some 1) else (if a0 < a1 then (some (-1)) else (if a0 > a1 then (some 1) else (some 0)))))) = some r := H
 have A3 := Aside0.mk A30
 clear A30
 replace H := Option.bind_eq_some_iff.mp H
 obtain ⟨t340, A40, H⟩ := H
 replace H : (if t339 = true then (if t340 = true then (some 0) else (some (-1))) else (if t340 = true then (some 1) else (if a0 < a1 then (some (-1)) else (if a0 > a1 then (some 1) else (some 0))))) = some r := H
 have A4 := Aside0.mk A40
 clear A40
 by_cases c5 : t339 = true
 ·subst c5
  have H1 : (if t340 = true then (some 0) else (some (-1))) = some r := by rw [if_pos rfl] at H; exact H
  clear H
  have H := H1
  clear H1
  by_cases c6 : t340 = true
  ·subst c6
   have H1 : (some 0) = some r := by rw [if_pos rfl] at H; exact H
   clear H
   have H := H1
   clear H1
   obtain rfl := Option.some.inj H
   go_enter Tryz.func145, Tryz.ntmps145
   go_wp2_with (first | ((with_reducible refine gate_callee (f := 157) rfl ?_); refine goesL_ (some 8) rfl rfl Tryz.func157 (by kernel_rfl) rfl #[.int .i64 a0] rfl aG ?_; (with_reducible refine (cmp_isNaN_int.calls a0 true _ A3.out).mono ?_); rintro e w' ⟨rfl, ⟨nd, rfl⟩⟩; refine ⟨_, rfl, ?_⟩) | ((with_reducible refine gate_callee (f := 157) rfl ?_); refine goesL_ (some 10) rfl rfl Tryz.func157 (by kernel_rfl) rfl #[.int .i64 a1] rfl aG ?_; (with_reducible refine (cmp_isNaN_int.calls a1 true _ A4.out).mono ?_); rintro e w' ⟨rfl, ⟨nd, rfl⟩⟩; refine ⟨_, rfl, ?_⟩))
   go_ret
   exact drz
  ·replace c6 := Bool.eq_false_iff.mpr c6
   subst c6
   have H1 : (some (-1)) = some r := by rw [if_neg (show ¬ (false = true) by decide)] at H; exact H
   clear H
   have H := H1
   clear H1
   obtain rfl := Option.some.inj H
   go_enter Tryz.func145, Tryz.ntmps145
   go_wp2_with (first | ((with_reducible refine gate_callee (f := 157) rfl ?_); refine goesL_ (some 8) rfl rfl Tryz.func157 (by kernel_rfl) rfl #[.int .i64 a0] rfl aG ?_; (with_reducible refine (cmp_isNaN_int.calls a0 true _ A3.out).mono ?_); rintro e w' ⟨rfl, ⟨nd, rfl⟩⟩; refine ⟨_, rfl, ?_⟩) | ((with_reducible refine gate_callee (f := 157) rfl ?_); refine goesL_ (some 10) rfl rfl Tryz.func157 (by kernel_rfl) rfl #[.int .i64 a1] rfl aG ?_; (with_reducible refine (cmp_isNaN_int.calls a1 false _ A4.out).mono ?_); rintro e w' ⟨rfl, ⟨nd, rfl⟩⟩; refine ⟨_, rfl, ?_⟩))
   go_ret
   exact drz
 ·replace c5 := Bool.eq_false_iff.mpr c5
  subst c5
  have H1 : (if t340 = true then (some 1) else (if a0 < a1 then (some (-1)) else (if a0 > a1 then (some 1) else (some 0)))) = some r := by rw [if_neg (show ¬ (false = true) by decide)] at H; exact H
  clear H
  have H := H1
  clear H1
  by_cases c7 : t340 = true
  ·subst c7
   have H1 : (some 1) = some r := by rw [if_pos rfl] at H; exact H
   clear H
   have H := H1
   clear H1
   obtain rfl := Option.some.inj H
   go_enter Tryz.func145, Tryz.ntmps145
   go_wp2_with (first | ((with_reducible refine gate_callee (f := 157) rfl ?_); refine goesL_ (some 8) rfl rfl Tryz.func157 (by kernel_rfl) rfl #[.int .i64 a0] rfl aG ?_; (with_reducible refine (cmp_isNaN_int.calls a0 false _ A3.out).mono ?_); rintro e w' ⟨rfl, ⟨nd, rfl⟩⟩; refine ⟨_, rfl, ?_⟩) | ((with_reducible refine gate_callee (f := 157) rfl ?_); refine goesL_ (some 10) rfl rfl Tryz.func157 (by kernel_rfl) rfl #[.int .i64 a1] rfl aG ?_; (with_reducible refine (cmp_isNaN_int.calls a1 true _ A4.out).mono ?_); rintro e w' ⟨rfl, ⟨nd, rfl⟩⟩; refine ⟨_, rfl, ?_⟩))
   go_ret
   exact drz
  ·replace c7 := Bool.eq_false_iff.mpr c7
   subst c7
   have H1 : (if a0 < a1 then (some (-1)) else (if a0 > a1 then (some 1) else (some 0))) = some r := by rw [if_neg (show ¬ (false = true) by decide)] at H; exact H
   clear H
   have H := H1
   clear H1
   by_cases c8 : a0 < a1
   ·rw [if_pos c8] at H
    have c8b0 : decide (a0 < a1) = true := decide_eq_true c8
    clear c8
    obtain rfl := Option.some.inj H
    go_enter Tryz.func145, Tryz.ntmps145
    go_wp2_with (first | ((with_reducible refine gate_callee (f := 157) rfl ?_); refine goesL_ (some 8) rfl rfl Tryz.func157 (by kernel_rfl) rfl #[.int .i64 a0] rfl aG ?_; (with_reducible refine (cmp_isNaN_int.calls a0 false _ A3.out).mono ?_); rintro e w' ⟨rfl, ⟨nd, rfl⟩⟩; refine ⟨_, rfl, ?_⟩) | ((with_reducible refine gate_callee (f := 157) rfl ?_); refine goesL_ (some 10) rfl rfl Tryz.func157 (by kernel_rfl) rfl #[.int .i64 a1] rfl aG ?_; (with_reducible refine (cmp_isNaN_int.calls a1 false _ A4.out).mono ?_); rintro e w' ⟨rfl, ⟨nd, rfl⟩⟩; refine ⟨_, rfl, ?_⟩))
    go_ret
    exact drz
   ·rw [if_neg c8] at H
    have c8b0 : decide (a0 < a1) = false := decide_eq_false c8
    clear c8
    by_cases c9 : a0 > a1
    ·rw [if_pos c9] at H
     have c9b0 : decide (a1 < a0) = true := decide_eq_true c9
     clear c9
     obtain rfl := Option.some.inj H
     go_enter Tryz.func145, Tryz.ntmps145
     go_wp2_with (first | ((with_reducible refine gate_callee (f := 157) rfl ?_); refine goesL_ (some 8) rfl rfl Tryz.func157 (by kernel_rfl) rfl #[.int .i64 a0] rfl aG ?_; (with_reducible refine (cmp_isNaN_int.calls a0 false _ A3.out).mono ?_); rintro e w' ⟨rfl, ⟨nd, rfl⟩⟩; refine ⟨_, rfl, ?_⟩) | ((with_reducible refine gate_callee (f := 157) rfl ?_); refine goesL_ (some 10) rfl rfl Tryz.func157 (by kernel_rfl) rfl #[.int .i64 a1] rfl aG ?_; (with_reducible refine (cmp_isNaN_int.calls a1 false _ A4.out).mono ?_); rintro e w' ⟨rfl, ⟨nd, rfl⟩⟩; refine ⟨_, rfl, ?_⟩))
     go_ret
     exact drz
    ·rw [if_neg c9] at H
     have c9b0 : decide (a1 < a0) = false := decide_eq_false c9
     clear c9
     obtain rfl := Option.some.inj H
     go_enter Tryz.func145, Tryz.ntmps145
     go_wp2_with (first | ((with_reducible refine gate_callee (f := 157) rfl ?_); refine goesL_ (some 8) rfl rfl Tryz.func157 (by kernel_rfl) rfl #[.int .i64 a0] rfl aG ?_; (with_reducible refine (cmp_isNaN_int.calls a0 false _ A3.out).mono ?_); rintro e w' ⟨rfl, ⟨nd, rfl⟩⟩; refine ⟨_, rfl, ?_⟩) | ((with_reducible refine gate_callee (f := 157) rfl ?_); refine goesL_ (some 10) rfl rfl Tryz.func157 (by kernel_rfl) rfl #[.int .i64 a1] rfl aG ?_; (with_reducible refine (cmp_isNaN_int.calls a1 false _ A4.out).mono ?_); rintro e w' ⟨rfl, ⟨nd, rfl⟩⟩; refine ⟨_, rfl, ?_⟩))
     go_ret
     exact drz
def cmp_Or_int.l0 : Nat → Int → List Int → Int → Int → Option (Int)
 | 0, _, _, _, _ => none
 | k + 1, x3, x6, x7, x8 => if x8 < x7 then (if 0 ≤ x8 then (if x8 < (x6.length : Int) then (if (rd x6 x8) = x3 then (cmp_Or_int.l0 k x3 x6 x7 (wrap64 (x8 + 1))) else (some (rd x6 x8))) else (none)) else (none)) else (some x3)
def cmp_Or_int.f (k : Nat) (l0 : List Int) : Option (Int) := cmp_Or_int.l0 k 0 l0 (l0.length : Int) 0
set_option maxHeartbeats 8000000 in
set_option maxRecDepth 100000 in
theorem cmp_Or_int.calls (k : Nat) (A0 : Option Addr) (c0 : Nat) (l0 : List Int) (r : Int) (w : World) (hr0 : Kd.C (Kd.int .i64) w A0 l0.length l0) (hc0 : l0.length ≤ c0) (h : cmp_Or_int.f k l0 = some r) :
  Calls Tryz.prog 144 #[.slice A0 l0.length c0] w fun e w' => e = .returned (.int .i64 r) ∧ Drawn0 w w' := by
 have HR0 := Aside0.mk hr0
 have HC0 := Aside0.mk hc0
 clear hr0 hc0
 have H : (cmp_Or_int.l0 k 0 l0 (l0.length : Int) 0) = some r := h
 clear h
 have H' := Aside0.mk H
 clear H
 go_enter Tryz.func144, Tryz.ntmps144
 go_wp2
 go_loopg [8] k (fun kq v8 w' => ∃ (x8_1 : Int), v8 = .int .i64 x8_1 ∧ Aside0 (cmp_Or_int.l0 kq 0 l0 (l0.length : Int) x8_1 = some r) ∧ Aside0 (kq ≤ k) ∧ Drawn0 w w')
 case atStart => exact ⟨(0), (by first | rfl | (simp; done) | (simp [*]; done)), H', ⟨Nat.le_refl _⟩, by repeat (first | exact Drawn0.refl _ | apply Drawn0.step)⟩
 case round =>
  clear H'
  (try clear c1)
  obtain ⟨x8_1, rfl, HA, HK1, ⟨m1, rfl⟩⟩ := hrel
  cases gk with
  | zero => exact absurd HA.out (by simp [cmp_Or_int.l0])
  | succ k1 =>
   have H := HA.out
   clear HA
   simp only [cmp_Or_int.l0] at H
   by_cases c2 : x8_1 < (l0.length : Int)
   ·rw [if_pos c2] at H
    have c2b0 : decide (x8_1 < (l0.length : Int)) = true := decide_eq_true c2
    clear c2
    by_cases c3 : 0 ≤ x8_1
    ·rw [if_pos c3] at H
     have c3b0 : decide (0 ≤ x8_1) = true := decide_eq_true c3
     clear c3
     by_cases c4 : x8_1 < (l0.length : Int)
     ·rw [if_pos c4] at H
      have c4b0 : decide (x8_1 < (l0.length : Int)) = true := decide_eq_true c4
      clear c4
      by_cases c5 : (rd l0 x8_1) = 0
      ·rw [if_pos c5] at H
       have c5b0 : ((rd l0 x8_1) == 0) = true := beq_iff_eq.mpr c5
       have c5b1 : ((rd l0 x8_1) != 0) = false := bne_eq_false_iff_eq.mpr c5
       clear c5
       have H' := Aside0.mk H
       clear H
       have p338 : 0 ≤ (x8_1 : Int) := of_decide_eq_true (by first | (with_reducible assumption) | assumption)
       have q338 : x8_1 < (l0.length : Int) := of_decide_eq_true (by first | (with_reducible assumption) | assumption)
       obtain ⟨ad338, e338, hx338_0⟩ := Kd.at_int HR0.out x8_1 p338 q338
       cases e338
       replace p338 := eq_true p338
       replace q338 := eq_true q338
       go_wp2
       go_roundg k1
       case measure => have := HK1.out; omega
       case rel => exact ⟨(wrap64 (x8_1 + 1)), (by first | rfl | (simp; done) | (simp [*]; done)), H', ⟨by have := HK1.out; omega⟩, by repeat (first | exact Drawn0.refl _ | apply Drawn0.step)⟩
      ·rw [if_neg c5] at H
       have c5b0 : ((rd l0 x8_1) == 0) = false := beq_eq_false_iff_ne.mpr c5
       have c5b1 : ((rd l0 x8_1) != 0) = true := bne_iff_ne.mpr c5
       obtain rfl := Option.some.inj H
       have p338 : 0 ≤ (x8_1 : Int) := of_decide_eq_true (by first | (with_reducible assumption) | assumption)
       have q338 : x8_1 < (l0.length : Int) := of_decide_eq_true (by first | (with_reducible assumption) | assumption)
       obtain ⟨ad338, e338, hx338_0⟩ := Kd.at_int HR0.out x8_1 p338 q338
       cases e338
       replace p338 := eq_true p338
       replace q338 := eq_true q338
       go_wp2
       go_ret
       exact drz
     ·rw [if_neg c4] at H
      exact absurd H (by simp)
    ·rw [if_neg c3] at H
     exact absurd H (by simp)
   ·rw [if_neg c2] at H
    have c2b0 : decide (x8_1 < (l0.length : Int)) = false := decide_eq_false c2
    clear c2
    obtain rfl := Option.some.inj H
    go_wp2
    go_ret
    exact drz
end Go.Proofs.YtghommaokdhjmaaGreat.P
/- val.Compare, slices.CompareFunc over Values, fact.Compare: their walks and what they answer as plain functions; behind each the world has grown and drawn, and no more (Gr); no condition. -/
namespace Go.Proofs.YtghommaokdhjmaaGreat.CmpF
open Go.RowKit Go.Lib Go.Proofs.YtghommaokdhjmaaGreatW.PrintWords Go.Proofs.YtghommaokdhjmaaGreatW.PrintLast Gate P Str
def Gr (w W : World) : Prop := ∃ (n : Nat) (os : Array Obj), W = Go.Sort.grow (w.drewN n) os
theorem Gr.refl (w : World) : Gr w w := ⟨0, #[], by simp [Go.Sort.grow, World.drewN]⟩
theorem Gr.trans {a b c : World} (h : Gr a b) (k : Gr b c) : Gr a c := by
 obtain ⟨n, os, rfl⟩ := h
 obtain ⟨m, os', rfl⟩ := k
 exact ⟨n + m, os ++ os', by simp [Go.Sort.grow, World.drewN, Array.append_assoc, Nat.add_assoc]⟩
theorem Gr.alloc {a b : World} (h : Gr a b) (o : Obj) : Gr a (b.alloc o) := h.trans ⟨0, #[o], Go.Sort.alloc_eq_grow b o⟩
theorem Gr.drewN {a b : World} (h : Gr a b) (n : Nat) : Gr a (b.drewN n) := h.trans ⟨n, #[], by simp⟩
theorem Gr.drew {a b : World} (h : Gr a b) : Gr a b.drew := h.drewN 1
theorem Gr.below {a b : World} (h : Gr a b) : Go.RowKit.Below a.heap.size a b := by
 obtain ⟨n, os, rfl⟩ := h
 exact ⟨rfl, rfl, rfl, by simp, fun k hk => Go.Sort.heap_grow_old (a.drewN n) os hk⟩
theorem Gr.of_drawn {a b : World} (h : Drawn0 a b) : Gr a b := by
 obtain ⟨n, rfl⟩ := h
 exact (Gr.refl a).drewN n
def ordI (a b : Int) : Int := if a < b then -1 else if a > b then 1 else 0
theorem ordI_eq (a b : Int) : cmp_Compare_int.f a b = some (ordI a b) := by
 unfold cmp_Compare_int.f cmp_isNaN_int.f ordI
 simp only [Option.bind_some]
 have e : ∀ x : Int, (x != x) = false := fun x => bne_self_eq_false x
 simp only [e, Bool.false_eq_true, if_false]
 split
 ·rfl
 ·split <;> rfl
def orL : List Int → Int
 | [] => 0
 | x :: l => if x ≠ 0 then x else orL l
theorem or_loop (l : List Int) (hl : l.length ≤ 1000000) : ∀ (m i : Nat), i + m = l.length → Ev (fun k => cmp_Or_int.l0 k 0 l (l.length : Int) i) (orL (l.drop i)) := by
 intro m
 induction m with
 | zero =>
  intro i h
  refine Ev.step (fun k => by rw [cmp_Or_int.l0, if_neg (by omega)]) ?_
  rw [List.drop_eq_nil_of_le (by omega), orL]
  exact Ev.now _
 | succ m ih =>
  intro i h
  have hi : i < l.length := by omega
  have hrd : rd l (i : Int) = l[i] := by
   unfold rd
   rw [Int.toNat_natCast, List.getD_eq_getElem?_getD, List.getElem?_eq_getElem hi]; rfl
  refine Ev.step (fun k => by rw [cmp_Or_int.l0, if_pos (by omega), if_pos (by omega), if_pos (by omega), hrd]) ?_
  rw [List.drop_eq_getElem_cons hi, orL]
  have hw : wrap64 ((i : Int) + 1) = ((i + 1 : Nat) : Int) := by
   unfold wrap64; omega
  by_cases hz : l[i] = 0
  ·rw [if_neg (by simp [hz])]
   simp only [hz, if_true, hw]
   exact ih (i + 1) (by omega)
  ·rw [if_pos hz]
   simp only [hz, if_false]
   exact Ev.now _
theorem or_ev (l : List Int) (hl : l.length ≤ 1000000) : Ev (fun k => cmp_Or_int.f k l) (orL l) := by
 have h := or_loop l hl l.length 0 (by omega)
 simpa only [cmp_Or_int.f, List.drop_zero, Int.natCast_zero] using h
def cmpV (x y : S64) : Int := orL [ordI x.f0 y.f0, ordI x.f1 y.f1, cmpS x.f2 y.f2]
def compareL : List S64 → List S64 → Int
 | [], [] => 0
 | [], _ :: _ => -1
 | _ :: _, [] => 1
 | x :: l, y :: m => if cmpV x y = 0 then compareL l m else cmpV x y
theorem rd24_get {l : List S64} {i : Nat} (hi : i < l.length) : rd_T64 l i = l[i] := by
 unfold rd_T64
 rw [Int.toNat_natCast, List.getD_eq_getElem?_getD, List.getElem?_eq_getElem hi]; rfl
def Two (w : World) (xs ys : Array Value) (t : TypeId) (W : World) : Prop := Gr w W ∧ W.heap[w.heap.size]? = some (.cells xs t (0, 0)) ∧ W.heap[w.heap.size + 1]? = some (.cells ys t (0, 0))
theorem Two.start (w : World) (xs ys : Array Value) (t : TypeId) : Two w xs ys t ((w.alloc (.cells xs t)).alloc (.cells ys t)) :=
 ⟨((Gr.refl w).alloc _).alloc _, (Go.RowKit.Below.heap_alloc _ _ _ (by simp)).trans (blk_new w _), by have := blk_new (w.alloc (.cells xs t)) (.cells ys t); simpa using this⟩
theorem Two.step {w : World} {xs ys : Array Value} {t : TypeId} {W W' : World} (h : Two w xs ys t W) (hb : Gr W W') : Two w xs ys t W' := ⟨h.1.trans hb, blk_below h.2.1 hb.below, blk_below h.2.2 hb.below⟩
theorem Two.below {w : World} {xs ys : Array Value} {t : TypeId} {W : World} (h : Two w xs ys t W) : Go.RowKit.Below w.heap.size w W := h.1.below
theorem Two.l {w : World} {xs ys : Array Value} {t : TypeId} {W : World} (h : Two w xs ys t W) (i : Nat) : W.cell? ⟨w.heap.size, i, none⟩ = xs[i]? := blk_cell h.2.1 i
theorem Two.r {w : World} {xs ys : Array Value} {t : TypeId} {W : World} (h : Two w xs ys t W) (i : Nat) : W.cell? ⟨w.heap.size + 1, i, none⟩ = ys[i]? := blk_cell h.2.2 i
theorem built3 (W : World) (a b c : Int) (t : TypeId) : Kd.C (Kd.int .i64) (W.alloc (.cells #[.int .i64 a, .int .i64 b, .int .i64 c] t)) (some ⟨W.heap.size, 0, none⟩) 3 [a, b, c] := by
 refine Kd.C_of_reads (enc := Value.int .i64) (d := 0) ⟨rfl, by decide, fun _ => ⟨_, rfl, fun j hj => ?_⟩⟩
 rcases j with _ | _ | _ | j
 ·simp [Addr.add]
 ·simp [Addr.add]
 ·simp [Addr.add]
 ·omega
theorem intG (a b : Int) (W : World) : Calls Tryz.prog 145 #[.int .i64 a, .int .i64 b] W fun e w' => e = .returned (.int .i64 (ordI a b)) ∧ Gr W w' := (cmp_Compare_int.calls _ _ _ W (ordI_eq _ _)).mono fun e w' ⟨he, hd⟩ => ⟨he, .of_drawn hd⟩
theorem strG (a b : ByteArray) (W : World) : Calls Tryz.prog 117 #[.string a, .string b] W fun e w' => e = .returned (.int .i64 (cmpS a b)) ∧ Gr W w' := (compare a b W).mono fun e w' ⟨he, hw⟩ => ⟨he, by rw [hw]; exact .refl _⟩
theorem orG (a b c : Int) (W : World) (t : TypeId) : Calls Tryz.prog 144 #[.slice (some ⟨W.heap.size, 0, none⟩) 3 3] (W.alloc (.cells #[.int .i64 a, .int .i64 b, .int .i64 c] t)) fun e w' => e = .returned (.int .i64 (orL [a, b, c])) ∧ Gr W w' := by
 obtain ⟨k, hk⟩ := (or_ev [a, b, c] (by simp)).rounds
 exact (cmp_Or_int.calls k (some ⟨W.heap.size, 0, none⟩) 3 [a, b, c] _ _ (built3 W _ _ _ t) (by simp) hk).mono fun e w' ⟨he, hd⟩ => ⟨he, ((Gr.refl W).alloc _).trans (.of_drawn hd)⟩
end Go.Proofs.YtghommaokdhjmaaGreat.CmpF
namespace Go.Proofs.YtghommaokdhjmaaGreat.P
open Go.Shelf Go.RowKit Go.Lib Go.Proofs.YtghommaokdhjmaaGreatW.PrintWords Go.Proofs.YtghommaokdhjmaaGreatW.PrintLast Gate Str CmpF
set_option maxHeartbeats 4000000 in
set_option maxRecDepth 1000000 in
theorem val_calls (x y : S64) (w : World) : Calls Tryz.prog 147 #[.agg #[.int .i64 x.f0, .int .i64 x.f1, .string x.f2], .agg #[.int .i64 y.f0, .int .i64 y.f1, .string y.f2]] w fun e w' => e = .returned (.int .i64 (cmpV x y)) ∧ Gr w w' := by
 have hu := Tryz.underlying64
 have G1 := Aside0.mk (intG x.f0 y.f0)
 have G2 := Aside0.mk (intG x.f1 y.f1)
 have G3 := Aside0.mk (strG x.f2 y.f2)
 have GO := Aside0.mk (orG (ordI x.f0 y.f0) (ordI x.f1 y.f1) (cmpS x.f2 y.f2))
 unfold cmpV
 generalize orL [ordI x.f0 y.f0, ordI x.f1 y.f1, cmpS x.f2 y.f2] = q at GO ⊢
 generalize ordI x.f0 y.f0 = q1 at GO G1
 generalize ordI x.f1 y.f1 = q2 at GO G2
 generalize cmpS x.f2 y.f2 = q3 at GO G3
 obtain ⟨x0, x1, x2⟩ := x
 obtain ⟨y0, y1, y2⟩ := y
 have T0 : Aside0 (Two w #[.int .i64 x0, .int .i64 x1, .string x2] #[.int .i64 y0, .int .i64 y1, .string y2] 64 ((w.alloc (.cells #[.int .i64 x0, .int .i64 x1, .string x2] 64)).alloc (.cells #[.int .i64 y0, .int .i64 y1, .string y2] 64))) := Aside0.mk (Two.start w _ _ _)
 go_enter Tryz.func147, Tryz.ntmps147
 go_wp2
 have T1 := T0
 clear T0
 generalize (w.alloc (.cells #[.int .i64 x0, .int .i64 x1, .string x2] 64)).alloc (.cells #[.int .i64 y0, .int .i64 y1, .string y2] 64) = w1 at T1 ⊢
 have hd1 := (Gr.refl w1).drew
 have k10 := T1.out.l 0
 have k11 := T1.out.l 1
 have k12 := T1.out.l 2
 have k13 := T1.out.r 0
 have k14 := T1.out.r 1
 have k15 := T1.out.r 2
 go_region_held3 (fun w' => w'.cell? ⟨w.heap.size, 0, none⟩ = some (.int .i64 x0) ∧ w'.cell? ⟨w.heap.size, 1, none⟩ = some (.int .i64 x1) ∧ w'.cell? ⟨w.heap.size, 2, none⟩ = some (.string x2) ∧ w'.cell? ⟨w.heap.size + 1, 0, none⟩ = some (.int .i64 y0) ∧ w'.cell? ⟨w.heap.size + 1, 1, none⟩ = some (.int .i64 y1) ∧ w'.cell? ⟨w.heap.size + 1, 2, none⟩ = some (.string y2))
  (first | go_keep | (refine ⟨?_, ?_, ?_, ?_, ?_, ?_⟩ <;> assumption))
  (first | (go_at_call 145; first | ((with_reducible refine (G1.out _).mono ?_); rintro e w2 ⟨rfl, hb2⟩; have T2 := Aside0.mk (T1.out.step (hd1.trans hb2)); have k20 := T2.out.l 0; have k21 := T2.out.l 1; have k22 := T2.out.l 2; have k23 := T2.out.r 0; have k64 := T2.out.r 1; have k25 := T2.out.r 2) | ((with_reducible refine (G2.out _).mono ?_); rintro e w3 ⟨rfl, hb3⟩; have T3 := Aside0.mk (T2.out.step hb3); have k30 := T3.out.l 0; have k31 := T3.out.l 1; have k32 := T3.out.l 2; have k33 := T3.out.r 0; have k34 := T3.out.r 1; have k35 := T3.out.r 2)) | (go_at_call 117; (with_reducible refine (G3.out _).mono ?_); rintro e w4 ⟨rfl, hb4⟩; have T4 := Aside0.mk (T3.out.step hb4); have k40 := T4.out.l 0; have k41 := T4.out.l 1; have k42 := T4.out.l 2; have k43 := T4.out.r 0; have k44 := T4.out.r 1; have k45 := T4.out.r 2) | (go_at_call 144; (with_reducible refine (GO.out _ _).mono ?_); rintro e w5 ⟨rfl, hb5⟩; have T5 := Aside0.mk (T4.out.step hb5); have k50 := T5.out.l 0; have k51 := T5.out.l 1; have k52 := T5.out.l 2; have k58 := T5.out.r 0; have k54 := T5.out.r 1; have k55 := T5.out.r 2))
 go_wp2
 go_ret
 exact ⟨rfl, T5.out.1⟩
set_option maxHeartbeats 4000000 in
set_option maxRecDepth 1000000 in
theorem compareFunc (A0 : Option Addr) (c0 : Nat) (l0 : List S64) (A1 : Option Addr) (c1 : Nat) (l1 : List S64) (w : World) (hr0 : Kd.C k64 w A0 l0.length l0) (hr1 : Kd.C k64 w A1 l1.length l1) (h0 : l0.length ≤ 1000000) (h1 : l1.length ≤ 1000000) :
  Calls Tryz.prog 146 #[.slice A0 l0.length c0, .slice A1 l1.length c1, .func (.func 147) #[] #[]] w fun e w' => e = .returned (.int .i64 (compareL l0 l1)) ∧ Gr w w' := by
 have hu24 := Tryz.underlying64
 have HR0 := Aside0.mk hr0
 have HR1 := Aside0.mk hr1
 have H0 := Aside0.mk h0
 have H1 := Aside0.mk h1
 have eg : ∀ args w, (callFunc 147 args).run Tryz.prog w = .ok (.enter 147 args) w := enters_of Tryz.func147 (by kernel_rfl) rfl
 have HE : Aside0 (compareL (l0.drop 0) (l1.drop 0) = compareL l0 l1) := Aside0.mk (by rw [List.drop_zero, List.drop_zero])
 generalize compareL l0 l1 = r at HE ⊢
 clear hr0 hr1 h0 h1
 go_enter Tryz.func146, Tryz.ntmps146
 go_wp2
 go_loopg [13] l0.length (fun gg s13 wr => ∃ (i : Nat), s13 = .int .i64 i ∧ i ≤ l0.length ∧ i ≤ l1.length ∧ l0.length - i ≤ gg ∧ Aside0 (compareL (l0.drop i) (l1.drop i) = r) ∧ Aside0 (Gr w wr))
 case atStart => exact ⟨0, rfl, Nat.zero_le _, Nat.zero_le _, by omega, HE, Aside0.mk (Gr.refl _)⟩
 case round =>
  clear HE
  obtain ⟨i, rfl, hi, hj, hg, HE, HB⟩ := hrel
  by_cases hlt : i < l0.length
  ·have HLt := Aside0.mk hlt
   have hltz : (i : Int) < (l0.length : Int) := by omega
   have hge : (0 : Int) ≤ (i : Int) := by omega
   obtain ⟨ad, eA, x0, x1, x2⟩ := at_T64 (Kd.C_below HR0.out HB.out.below) (i : Int) (by omega) hltz
   by_cases hl2 : i < l1.length
   ·have HL2 := Aside0.mk hl2
    have hltv : (i : Int) < (l1.length : Int) := by omega
    have hnge : ¬ (i : Int) ≥ (l1.length : Int) := by omega
    have hnge2 : ¬ (l1.length : Int) ≤ (i : Int) := by omega
    obtain ⟨ad2, eB, y0, y1, y2⟩ := at_T64 (Kd.C_below HR1.out HB.out.below) (i : Int) (by omega) hltv
    have hd0 : l0.drop i = rd_T64 l0 i :: l0.drop (i + 1) := by rw [rd24_get hlt]; exact List.drop_eq_getElem_cons hlt
    have hd1 : l1.drop i = rd_T64 l1 i :: l1.drop (i + 1) := by rw [rd24_get hl2]; exact List.drop_eq_getElem_cons hl2
    rw [hd0, hd1] at HE
    simp only [Int.toNat_natCast] at x0 x1 x2 y0 y1 y2
    generalize rd_T64 l0 (i : Int) = x at HE x0 x1 x2
    generalize rd_T64 l1 (i : Int) = y at HE y0 y1 y2
    clear hd0 hd1
    cases eA
    cases eB
    have hcall := fun W => val_calls x y W
    have hb2 : Go.RowKit.Below wr.heap.size wr (wr.alloc (.cells #[.int .i64 x.f0, .int .i64 x.f1, .string x.f2] 64)) := (Go.RowKit.Below.refl _ wr).alloc (Nat.le_refl _) _
    have z0 := mvc hb2 y0
    have z1 := mvc hb2 y1
    have z2 := mvc hb2 y2
    clear hb2 y0 y1 y2
    have hb3 : ∀ W', Gr ((wr.alloc (.cells #[.int .i64 x.f0, .int .i64 x.f1, .string x.f2] 64)).alloc (.cells #[.int .i64 y.f0, .int .i64 y.f1, .string y.f2] 64)) W' → Gr w W' := fun W' h => HB.out.trans ((((Gr.refl wr).alloc _).alloc _).trans h)
    have HB3 := Aside0.mk hb3
    clear hb3
    by_cases hq : cmpV x y = 0
    ·have HE2 : Aside0 (compareL (l0.drop (i + 1)) (l1.drop (i + 1)) = r) := by
      have := HE.out
      rw [compareL, if_pos hq] at this
      exact Aside0.mk this
     rw [hq] at hcall
     clear HE hq
     go_wp2_with (go_at_fn 147; with_reducible refine (hcall _).mono ?_; rintro e w' ⟨rfl, hb'⟩)
     go_roundg (l0.length - (i + 1))
     case measure => have h1_ := HLt.out; have h2_ := hg; omega
     case rel => exact ⟨i + 1, by rw [show wrap64 ((i : Int) + 1) = ((i + 1 : Nat) : Int) by (have h1_ := HLt.out; have h2_ := H0.out; unfold wrap64; omega)], HLt.out, HL2.out, by have := HLt.out; omega, HE2, Aside0.mk (HB3.out _ hb')⟩
    ·have he : cmpV x y = r := by
      have := HE.out
      rwa [compareL, if_neg hq] at this
     rw [he] at hcall hq
     clear HE he
     go_wp2_with (go_at_fn 147; with_reducible refine (hcall _).mono ?_; rintro e w' ⟨rfl, hb'⟩)
     go_ret
     exact ⟨rfl, HB3.out _ hb'⟩
   ·have hge2 : (l1.length : Int) ≤ (i : Int) := by omega
    have hd0 : l0.drop i = rd_T64 l0 i :: l0.drop (i + 1) := by rw [rd24_get hlt]; exact List.drop_eq_getElem_cons hlt
    obtain rfl : r = 1 := by
     have := HE.out
     rw [hd0, List.drop_eq_nil_of_le (show l1.length ≤ i by omega), compareL] at this
     exact this.symm
    simp only [Int.toNat_natCast] at x0 x1 x2
    clear hd0 HE
    generalize rd_T64 l0 (i : Int) = x at x0 x1 x2
    cases eA
    go_wp2
    go_ret
    exact ⟨rfl, HB.out.trans ((Gr.refl wr).alloc _)⟩
  ·have hnlt : ¬ (i : Int) < (l0.length : Int) := by omega
   have hd0 : l0.drop i = [] := List.drop_eq_nil_of_le (by omega)
   by_cases hl2 : i < l1.length
   ·have hl3 : (l0.length : Int) < (l1.length : Int) := by omega
    obtain rfl : r = -1 := by
     have := HE.out
     rw [hd0, List.drop_eq_getElem_cons hl2, compareL] at this
     exact this.symm
    clear HE hd0
    go_wp2
    go_ret
    exact ⟨rfl, HB.out⟩
   ·have hl3 : ¬ (l0.length : Int) < (l1.length : Int) := by omega
    obtain rfl : r = 0 := by
     have := HE.out
     rw [hd0, List.drop_eq_nil_of_le (show l1.length ≤ i by omega), compareL] at this
     exact this.symm
    clear HE hd0
    go_wp2
    go_ret
    exact ⟨rfl, HB.out⟩
def factCmp (x : ByteArray) (l : List S64) (y : ByteArray) (m : List S64) : Int := orL [cmpS x y, ordI (l.length : Int) (m.length : Int), compareL l m]
def fact_Compare.f (a0_0 : ByteArray) (l0_1 : List (S64)) (a1_0 : ByteArray) (l1_1 : List (S64)) : Option (Int) := if l0_1.length ≤ 1000000 ∧ l1_1.length ≤ 1000000 then some (factCmp a0_0 l0_1 a1_0 l1_1) else none
set_option maxHeartbeats 4000000 in
set_option maxRecDepth 1000000 in
theorem fact_Compare.grown (a0_0 : ByteArray) (A0_1 : Option Addr) (c0_1 : Nat) (l0_1 : List (S64)) (a1_0 : ByteArray) (A1_1 : Option Addr) (c1_1 : Nat) (l1_1 : List (S64)) (r : Int) (w : World) (hr0_1 : Kd.C k64 w A0_1 l0_1.length l0_1) (hc0_1 : l0_1.length ≤ c0_1) (hr1_1 : Kd.C k64 w A1_1 l1_1.length l1_1) (hc1_1 : l1_1.length ≤ c1_1) (h : fact_Compare.f a0_0 l0_1 a1_0 l1_1 = some r) :
  Calls Tryz.prog 123 #[.agg #[.string a0_0, .slice A0_1 l0_1.length c0_1], .agg #[.string a1_0, .slice A1_1 l1_1.length c1_1]] w fun e w' => e = .returned (.int .i64 r) ∧ Gr w w' := by
 have hfit : l0_1.length ≤ 1000000 ∧ l1_1.length ≤ 1000000 := by
  unfold fact_Compare.f at h
  by_cases hc : l0_1.length ≤ 1000000 ∧ l1_1.length ≤ 1000000
  ·exact hc
  ·rw [if_neg hc] at h; cases h
 obtain rfl : factCmp a0_0 l0_1 a1_0 l1_1 = r := by
  unfold fact_Compare.f at h
  rw [if_pos hfit] at h
  exact Option.some.inj h
 clear h
 have hu53 := Tryz.underlying58
 have G60 := Aside0.mk (strG a0_0 a1_0)
 have G79 := Aside0.mk (intG (l0_1.length : Int) (l1_1.length : Int))
 have G80 : Aside0 (∀ W, Go.RowKit.Below w.heap.size w W → Calls Tryz.prog 146 #[.slice A0_1 l0_1.length c0_1, .slice A1_1 l1_1.length c1_1, .func (.func 147) #[] #[]] W fun e w' => e = .returned (.int .i64 (compareL l0_1 l1_1)) ∧ Gr W w') := ⟨fun W hW => compareFunc A0_1 c0_1 l0_1 A1_1 c1_1 l1_1 W (Kd.C_below hr0_1 hW) (Kd.C_below hr1_1 hW) hfit.1 hfit.2⟩
 have GO := Aside0.mk (orG (cmpS a0_0 a1_0) (ordI (l0_1.length : Int) (l1_1.length : Int)) (compareL l0_1 l1_1))
 unfold factCmp
 generalize orL [cmpS a0_0 a1_0, ordI (l0_1.length : Int) (l1_1.length : Int), compareL l0_1 l1_1] = q at GO ⊢
 generalize cmpS a0_0 a1_0 = q1 at GO G60
 generalize ordI (l0_1.length : Int) (l1_1.length : Int) = q2 at GO G79
 generalize compareL l0_1 l1_1 = q3 at GO G80
 clear hr0_1 hr1_1 hc0_1 hc1_1 hfit
 have T0 : Aside0 (Two w #[.string a0_0, .slice A0_1 l0_1.length c0_1] #[.string a1_0, .slice A1_1 l1_1.length c1_1] 58 ((w.alloc (.cells #[.string a0_0, .slice A0_1 l0_1.length c0_1] 58)).alloc (.cells #[.string a1_0, .slice A1_1 l1_1.length c1_1] 58))) := Aside0.mk (Two.start w _ _ _)
 generalize l0_1.length = n0 at *
 generalize l1_1.length = n1 at *
 go_enter Tryz.func123, Tryz.ntmps123
 go_wp2
 have T1 := T0
 clear T0
 generalize (w.alloc (.cells #[.string a0_0, .slice A0_1 n0 c0_1] 58)).alloc (.cells #[.string a1_0, .slice A1_1 n1 c1_1] 58) = w1 at T1 ⊢
 have k10 := T1.out.l 0; have k11 := T1.out.l 1; have k12 := T1.out.r 0; have k13 := T1.out.r 1
 have hd1 := (Gr.refl w1).drew
 go_region_held3 (fun w' => w'.cell? ⟨w.heap.size, 0, none⟩ = some (.string a0_0) ∧ w'.cell? ⟨w.heap.size, 1, none⟩ = some (.slice A0_1 n0 c0_1) ∧ w'.cell? ⟨w.heap.size + 1, 0, none⟩ = some (.string a1_0) ∧ w'.cell? ⟨w.heap.size + 1, 1, none⟩ = some (.slice A1_1 n1 c1_1))
  (first | go_keep | (refine ⟨?_, ?_, ?_, ?_⟩ <;> assumption))
  (first | (go_at_call 117; (with_reducible refine (G60.out _).mono ?_); rintro e w2 ⟨rfl, hb2⟩; have T2 := Aside0.mk (T1.out.step (hd1.trans hb2)); have k20 := T2.out.l 0; have k21 := T2.out.l 1; have k22 := T2.out.r 0; have k23 := T2.out.r 1) | (go_at_call 145; (with_reducible refine (G79.out _).mono ?_); rintro e w3 ⟨rfl, hb3⟩; have T3 := Aside0.mk (T2.out.step hb3); have k30 := T3.out.l 0; have k31 := T3.out.l 1; have k32 := T3.out.r 0; have k33 := T3.out.r 1) | (go_at_call 146; (with_reducible refine (G80.out _ T3.out.below).mono ?_); rintro e w4 ⟨rfl, hb4⟩; have T4 := Aside0.mk (T3.out.step hb4); have k40 := T4.out.l 0; have k41 := T4.out.l 1; have k42 := T4.out.r 0; have k43 := T4.out.r 1) | (go_at_call 144; (with_reducible refine (GO.out _ _).mono ?_); rintro e w5 ⟨rfl, hb5⟩; have T5 := Aside0.mk (T4.out.step hb5); have k50 := T5.out.l 0; have k51 := T5.out.l 1; have k52 := T5.out.r 0; have k58 := T5.out.r 1))
 go_wp2
 go_ret
 exact ⟨rfl, T5.out.1⟩
theorem fact_Compare.calls (a0_0 : ByteArray) (A0_1 : Option Addr) (c0_1 : Nat) (l0_1 : List (S64)) (a1_0 : ByteArray) (A1_1 : Option Addr) (c1_1 : Nat) (l1_1 : List (S64)) (r : Int) (w : World) (hr0_1 : Kd.C k64 w A0_1 l0_1.length l0_1) (hc0_1 : l0_1.length ≤ c0_1) (hr1_1 : Kd.C k64 w A1_1 l1_1.length l1_1) (hc1_1 : l1_1.length ≤ c1_1) (h : fact_Compare.f a0_0 l0_1 a1_0 l1_1 = some r) :
  Calls Tryz.prog 123 #[.agg #[.string a0_0, .slice A0_1 l0_1.length c0_1], .agg #[.string a1_0, .slice A1_1 l1_1.length c1_1]] w fun e w' => e = .returned (.int .i64 r) ∧ Go.RowKit.Below w.heap.size w w' :=
 (fact_Compare.grown a0_0 A0_1 c0_1 l0_1 a1_0 A1_1 c1_1 l1_1 r w hr0_1 hc0_1 hr1_1 hc1_1 h).mono fun e w' ⟨he, hb⟩ => ⟨he, hb.below⟩
end Go.Proofs.YtghommaokdhjmaaGreat.P
/- What match.Ground and the reference's Ground share: the facts' own row, what holds ahead of a round. -/
namespace Go.Proofs.YtghommaokdhjmaaGreat.Sat
open Go.RowKit Go.Lib Go.Sort Go.Proofs.SymP Go.Proofs.YtghommaokdhjmaaGreatW.PrintWords P FactC IRow Frm SpecM SpecB PSat PSpec CmpF BothB
def v3 (x : S64) (cs : List Value) : Prop := cs = [.int .i64 x.f0, .int .i64 x.f1, .string x.f2]
def OwnV (W : World) (b : Nat) (v : Value) (xs : List S64) : Prop := ∃ ui, W.ownsRow b 64 3 v xs.length ui ∧ Reps v3 3 xs ui
theorem OwnV.below {W W' : World} {b : Nat} {v : Value} {xs : List S64} (h : OwnV W b v xs) (hb : Go.RowKit.Below W.heap.size W W') : OwnV W' b v xs := by
 obtain ⟨ui, ho, hr⟩ := h
 exact ⟨ui, own_move ho (fun k hk => hb.block k (own_lt ho k hk)), hr⟩
theorem OwnV.lt {W : World} {b : Nat} {v : Value} {xs : List S64} (h : OwnV W b v xs) {k : Nat} (hk : v.ownBlock = some k) : b ≤ k ∧ k < W.heap.size := by
 obtain ⟨ui, ho, hr⟩ := h
 exact ⟨(ho.lt k hk).1, own_lt ho k hk⟩
theorem OwnV.set {W : World} {b : Nat} {v : Value} {xs : List S64} (h : OwnV W b v xs) {p : Addr} (hne : ∀ k, v.ownBlock = some k → k ≠ p.block) (u : Value) : OwnV (W.setCell p u) b v xs := by
 obtain ⟨ui, ho, hr⟩ := h
 exact ⟨ui, own_setCell ho (fun e => hne _ e.symm rfl) u, hr⟩
theorem OwnV.row {W : World} {b : Nat} {A : Option Addr} {n c : Nat} {xs : List S64} (h : OwnV W b (.slice A n c) xs) (hn : xs.length = n) : n ≤ c ∧ Kd.C k64 W A n xs := by
 subst hn
 obtain ⟨ui, ho, hr⟩ := h
 obtain ⟨A', c', e, hR⟩ := own_reads_row (R := fun x cs => k64.K W x cs) ho (hr.imp_ (fun x cs hp => by rw [show cs = [.int .i64 x.f0, .int .i64 x.f1, .string x.f2] from hp]; exact k64_mk W x)) rfl
 injection e with e1 e2 e3
 subst e1
 exact ⟨own_le ho, hR⟩
theorem OwnV.kd {W : World} {b b0 : Nat} {v : Value} {xs : List S64} (h : OwnV W b v xs) (hb : b0 ≤ b) : Kd.R k64 64 W b0 (fun _ => True) v xs := by
 obtain ⟨ui, ho, hr⟩ := h
 exact ⟨fun _ _ => trivial, ui, own_less ho hb, hr.imp_ (fun x cs hp => by rw [show cs = [.int .i64 x.f0, .int .i64 x.f1, .string x.f2] from hp]; exact k64_mkM W b0 _ x)⟩
theorem infoV : (Tryz.prog.info? 64).map (fun i => (i.zero, i.size, i.bytes)) = some (some (.agg #[.int .i64 0, .int .i64 0, .string ⟨#[]⟩]), 3, 32) := by kernel_rfl
theorem appendG {W : World} (b : Nat) (O : Option Addr) (m co : Nat) (acc : List S64) (x : S64) (h : OwnV W b (.slice O m co) acc) (hm : acc.length = m) (hb : b ≤ W.heap.size) (hl : m ≤ 1000000) :
  ∃ A' c' w', (∀ ty, (Builtin.append_ #[56, 56] ty #[.slice O m co, .slice (some ⟨W.heap.size, 0, none⟩) 1 1]).run Tryz.prog (W.alloc (.cells #[.int .i64 x.f0, .int .i64 x.f1, .string x.f2] 64)) = .ok (.slice A' (m + 1) c') w') ∧ OwnV w' b (.slice A' (m + 1) c') (acc ++ [x]) ∧ Go.RowKit.Below b W w' := by
 subst hm
 have hin := infoV
 rcases hinf : Tryz.prog.info? 64 with _ | i
 ·rw [hinf] at hin; cases hin
 rw [hinf] at hin
 simp only [Option.map_some, Option.some.injEq, Prod.mk.injEq] at hin
 obtain ⟨hz, hsz, hby⟩ := hin
 have ht : Tryz.prog.underlying 56 = some (.slice 64) := Tryz.underlying56
 obtain ⟨ui, uo, ur⟩ := h
 have uo' := own_alloc uo (.cells #[.int .i64 x.f0, .int .i64 x.f1, .string x.f2] 64)
 have hb' : b ≤ (W.alloc (.cells #[.int .i64 x.f0, .int .i64 x.f1, .string x.f2] 64)).heap.size := by simp; omega
 obtain ⟨u', w', hr, ho, hg, _, hat⟩ := run_append_own_at (P := Tryz.prog) _ b 56 0 64 i _ 3 32 ht hinf hz hsz hby (by rfl) (by decide) (.slice O acc.length co) acc.length ui uo' ⟨W.heap.size, 0, none⟩ 1 1 [.int .i64 x.f0, .int .i64 x.f1, .string x.f2] rfl (fun j v hv => by
  rcases j with _ | _ | _ | j
  ·obtain rfl : Value.int .i64 x.f0 = v := by simpa using hv
   simp [Addr.add]
  ·obtain rfl : Value.int .i64 x.f1 = v := by simpa using hv
   simp [Addr.add]
  ·obtain rfl : Value.string x.f2 = v := by simpa using hv
   simp [Addr.add]
  ·simp at hv) (fun v hv => by
  simp only [List.mem_cons, List.not_mem_nil, or_false] at hv
  rcases hv with rfl | rfl | rfl <;> rfl) (by unfold maxLen; omega) (by omega) hb'
 have hbw : Go.RowKit.Below b W w' := ((Go.RowKit.Below.refl b W).alloc hb _).grown hg hb' (fun k hk => (uo'.lt k hk).1)
 have hys : Reps v3 3 [x] [.int .i64 x.f0, .int .i64 x.f1, .string x.f2] := ⟨rfl, fun j p hj => by
  rcases j with _ | j
  ·obtain rfl : x = p := by simpa using hj
   rfl
  ·simp at hj⟩
 obtain ⟨A', c', rfl⟩ := own_slice ho
 refine ⟨A', c', w', fun ty => hr, ⟨_, ?_, Kd.reps_append ur hys⟩, hbw⟩
 rw [show (acc ++ [x]).length = acc.length + 1 by simp]
 exact ho
structure GI (w wr : World) (a : ByteArray) (S : Value) (g0 g4 g6 base : Nat) (v : Value) (acc : List S64) : Prop where
 bx : wr.heap[g0]? = some (.cells #[.string a, S] 25 (0, 0))
 res : wr.heap[g4]? = some (.cells #[.string ⟨#[]⟩, .slice none 0 0] 58 (0, 0))
 blk : wr.heap[g6]? = some (.cells #[.string a, v] 58 (0, 0))
 own : OwnV wr base v acc
 bel : Go.RowKit.Below w.heap.size w wr
 ord : w.heap.size ≤ g0 ∧ g0 < g4 ∧ g4 < g6 ∧ g6 < base ∧ base ≤ wr.heap.size
theorem GI.below {w wr W : World} {a : ByteArray} {S : Value} {g0 g4 g6 base : Nat} {v : Value} {acc : List S64} (h : GI w wr a S g0 g4 g6 base v acc) (hb : Go.RowKit.Below wr.heap.size wr W) : GI w W a S g0 g4 g6 base v acc :=
 ⟨blk_below h.bx hb, blk_below h.res hb, blk_below h.blk hb, h.own.below hb, h.bel.trans (hb.mono h.bel.size), h.ord.1, h.ord.2.1, h.ord.2.2.1, h.ord.2.2.2.1, Nat.le_trans h.ord.2.2.2.2 hb.size⟩
theorem GI.set {w wr : World} {a : ByteArray} {S : Value} {g0 g4 g6 base : Nat} {v : Value} {acc : List S64} (h : GI w wr a S g0 g4 g6 base v acc) {g i : Nat} (h1 : base ≤ g) (h2 : ∀ k, v.ownBlock = some k → k ≠ g) (u : Value) : GI w (wr.setCell ⟨g, i, none⟩ u) a S g0 g4 g6 base v acc :=
 ⟨blk_far h.bx (by have := h.ord; show g0 ≠ g; omega) u, blk_far h.res (by have := h.ord; show g4 ≠ g; omega) u, blk_far h.blk (by have := h.ord; show g6 ≠ g; omega) u, h.own.set h2 u, h.bel.setCell (by have := h.ord; show w.heap.size ≤ g; omega) u, h.ord.1, h.ord.2.1, h.ord.2.2.1, h.ord.2.2.2.1, by simpa [World.setCell] using h.ord.2.2.2.2⟩
theorem GI.step {w wr w7 : World} {a : ByteArray} {S : Value} {g0 g4 g6 base : Nat} {v u : Value} {acc acc' : List S64} (h : GI w wr a S g0 g4 g6 base v acc) (ho : OwnV w7 base u acc') (hb : Go.RowKit.Below base wr w7) : w7.heap[g6]? = some (.cells #[.string a, v] 58 (0, 0)) ∧ GI w (w7.setCell ⟨g6, 1, none⟩ u) a S g0 g4 g6 base u acc' := by
 have o := h.ord
 have k6 : w7.heap[g6]? = some (.cells #[.string a, v] 58 (0, 0)) := (hb.block _ (by omega)).trans h.blk
 have k4 := (hb.block g4 (by omega)).trans h.res
 have k0 := (hb.block g0 (by omega)).trans h.bx
 refine ⟨k6, blk_far k0 (by show g0 ≠ g6; omega) u, blk_far k4 (by show g4 ≠ g6; omega) u, blk_set k6 1 u, ho.set (fun k hk => by have := (ho.lt hk).1; show k ≠ g6; omega) u, (h.bel.trans (hb.mono (by omega))).setCell (by show w.heap.size ≤ g6; omega) u, o.1, o.2.1, o.2.2.1, o.2.2.2.1, ?_⟩
 have : w7.heap.size ≤ (w7.setCell ⟨g6, 1, none⟩ u).heap.size := by simp [World.setCell]
 exact Nat.le_trans o.2.2.2.2 (Nat.le_trans hb.size this)
theorem grL_con {l : List S66} {t : S92} {ts : List S92} {acc : List S64} (hc : con t) : (grL l (t :: ts)).map (acc ++ ·) = (grL l ts).map ((acc ++ [t.f1]) ++ ·) := by
 rw [grL, if_pos hc, Option.map_map]
 congr 1
 funext r
 simp
theorem grL_var {l : List S66} {t : S92} {ts : List S92} {acc : List S64} (hc : ¬ con t) (h : (getP l t.f0).2.2.2 = true) : (grL l (t :: ts)).map (acc ++ ·) = (grL l ts).map ((acc ++ [(⟨(getP l t.f0).1, (getP l t.f0).2.1, (getP l t.f0).2.2.1⟩ : S64)]) ++ ·) := by
 rw [grL, if_neg hc, if_pos h, Option.map_map]
 congr 1
 funext r
 simp
theorem grL_no {l : List S66} {t : S92} {ts : List S92} (hc : ¬ con t) (h : (getP l t.f0).2.2.2 = false) : grL l (t :: ts) = none := by
 rw [grL, if_neg hc, if_neg (by rw [h]; decide)]
end Go.Proofs.YtghommaokdhjmaaGreat.Sat
/- match.Ground: its walk by hand. -/
namespace Go.Proofs.YtghommaokdhjmaaGreat.Sat
open Go.RowKit Go.Lib Go.Sort Go.Proofs.SymP Go.Proofs.YtghommaokdhjmaaGreatW.PrintWords P FactC IRow Frm SpecM SpecB PSat PSpec CmpF BothB
theorem con_size3 (t : S92) : (t.f0.toList != ([] : List UInt8)) = !decide (con t) := by
 unfold con
 by_cases h : t.f0.toList = []
 ·simp [h]
 ·simp [h]

set_option maxHeartbeats 8000000 in
set_option maxRecDepth 1000000 in
theorem ground_calls {w : World} {A B : Option Addr} {c bc : Nat} {ts : List S92} {l : List S66} (a : ByteArray) (hA : Kd.C k92 w A ts.length ts) (hcA : ts.length ≤ c) (hB : Kd.C k66 w B l.length l) (hcB : l.length ≤ bc) (ha : a.size ≤ 1000000) (ft : fitT ts = true) (fl : PSpec.fitB l = true) (htl : ts.length ≤ 1000) : Calls Tryz.prog 122 #[.agg #[.string a, .slice A ts.length c], .slice B l.length bc] w fun e w' => ∃ A' c', e = .returned (.tuple #[.agg #[.string (groundP a ts l).1, .slice A' (groundP a ts l).2.1.length c'], .int .i64 (groundP a ts l).2.2]) ∧ (groundP a ts l).2.1.length ≤ c' ∧ Kd.R k64 64 w' w.heap.size (fun _ => True) (.slice A' (groundP a ts l).2.1.length c') (groundP a ts l).2.1 ∧ Go.RowKit.Below w.heap.size w w' := by
 have hu := Tryz.underlying25
 have hu2 := Tryz.underlying58
 have hu3 := Tryz.underlying92
 have hu4 := Tryz.underlying64
 obtain ⟨m1, hm1⟩ : ∃ m1, matP a ts = m1 := ⟨_, rfl⟩
 obtain ⟨m2, hm2⟩ : ∃ m2, chkP l = m2 := ⟨_, rfl⟩
 have H1 : Aside0 (∀ W, Go.RowKit.Below w.heap.size w W → Calls Tryz.prog 58 #[.agg #[.string a, .slice A ts.length c]] W fun e w' => e = .returned (.int .i64 m1) ∧ Go.RowKit.Below W.heap.size W w') := ⟨fun W hW => by
  have := match_Check.calls a A c ts (matP a ts) W (Kd.C_below hA hW) hcA (by unfold match_Check.f; rw [if_pos ⟨ha, ft⟩])
  rwa [hm1] at this⟩
 have H2 : Aside0 (∀ W, Go.RowKit.Below w.heap.size w W → Calls Tryz.prog 34 #[.slice B l.length bc] W fun e w' => e = .returned (.int .i64 m2) ∧ Go.RowKit.Below W.heap.size W w') := ⟨fun W hW => by
  have := PSpec.chk_calls B bc l W (Kd.C_below hB hW) hcB fl
  rwa [hm2] at this⟩
 have HGt0 : Aside0 (l.length ≤ 1000000 → ∀ W n, Go.RowKit.Below w.heap.size w W → Calls Tryz.prog 36 #[.slice B l.length bc, .string n] W fun e w' => e = .returned (.tuple #[.agg #[.int .i64 (getP l n).1, .int .i64 (getP l n).2.1, .string (getP l n).2.2.1], .bool (getP l n).2.2.2]) ∧ Go.RowKit.Below W.heap.size W w') := ⟨fun hl W n hW => by
  obtain ⟨k, hk⟩ := (ev_get hl n).rounds
  exact subst_Get.calls k B bc l n _ _ _ _ W (Kd.C_below hB hW) hcB hk⟩
 have HR := Aside0.mk hA
 have HL2 := Aside0.mk (fun h : chkP l = 0 => right_len h)
 have hb0 : Go.RowKit.Below w.heap.size w ((w.alloc (.cells #[.string a, .slice A ts.length c] 25)).alloc (.cells #[.string ⟨#[]⟩, .slice none 0 0] 58)) := ((Go.RowKit.Below.refl _ w).alloc (Nat.le_refl _) _).alloc (by simp) _
 clear hA hB
 go_enter Tryz.func122, Tryz.ntmps122
 go_upto_region 1 with fail
 refine wp_world (fun V => V.heap[w.heap.size]? = some (.cells #[.string a, .slice A ts.length c] 25 (0, 0)) ∧ V.heap[w.heap.size + 1]? = some (.cells #[.string ⟨#[]⟩, .slice none 0 0] 58 (0, 0)) ∧ Go.RowKit.Below w.heap.size w V) ⟨blk_below (blk_new w (.cells #[.string a, .slice A ts.length c] 25)) ((Go.RowKit.Below.refl _ _).alloc (Nat.le_refl _) _), by have h := blk_new (w.alloc (.cells #[.string a, .slice A ts.length c] 25)) (.cells #[.string ⟨#[]⟩, .slice none 0 0] 58); simpa using h, hb0⟩ ?_
 clear hb0
 generalize hg4 : w.heap.size + 1 = g4
 generalize hg0 : w.heap.size = g0
 rintro V ⟨k0, k4, hbV⟩
 rw [← hg0] at hbV
 have HGB := Aside0.mk (And.intro hg0 hg4)
 clear hg0 hg4
 have HB := Aside0.mk hbV
 clear hbV
 have a0 : V.cell? ⟨g0, 0, none⟩ = some (.string a) := blk_cell k0 0
 have a1 : V.cell? ⟨g0, 1, none⟩ = some (.slice A ts.length c) := blk_cell k0 1
 by_cases q1 : m1 = 0
 case neg =>
  have hg : groundP a ts l = ((⟨#[]⟩ : ByteArray), [], m1) := by unfold groundP; rw [if_neg (by rw [hm1]; exact q1), hm1]
  have d1 := beq_false_of_ne q1
  have d2 := bne_iff_ne.2 q1
  go_upto_region 5 with (first
   | (go_at_call 58; with_reducible refine (H1.out _ HB.out).mono ?_; rintro e wk ⟨rfl, hb⟩; replace HB := Aside0.mk (HB.out.trans (hb.mono HB.out.size)); replace k0 := blk_below k0 hb; replace k4 := blk_below k4 hb; replace a0 := mvc hb a0; replace a1 := mvc hb a1; clear hb)
   | fail)
  have q0 : wk.cell? ⟨g4, 0, none⟩ = some (.string ⟨#[]⟩) := blk_cell k4 0
  have q1 : wk.cell? ⟨g4, 1, none⟩ = some (.slice none 0 0) := blk_cell k4 1
  have p0 := blk_frozen k4 0
  have p1 := blk_frozen k4 1
  go_wp2
  have kR : ((wk.setCell ⟨g4, 0, none⟩ (.string ⟨#[]⟩)).setCell ⟨g4, 1, none⟩ (.slice none 0 0)).heap[g4]? = some (.cells #[.string ⟨#[]⟩, .slice none 0 0] 58 (0, 0)) := blk_set (blk_set k4 0 _) 1 _
  refine bodyPost_ret (results_ct rfl _ _ g4 58 #[.string ⟨#[]⟩, .slice none 0 0] (0, 0) _ rfl kR Tryz.underlying58 rfl (by kernel_rfl)) rfl ?_
  rw [hg]
  have o := HGB.out
  exact ⟨none, 0, rfl, Nat.le_refl _, Kd.R_nil _ _ _ _ _, (HB.out.setCell (by show w.heap.size ≤ g4; omega) _).setCell (by show w.heap.size ≤ g4; omega) _⟩
 subst q1
 by_cases q2 : m2 = 0
 case neg =>
  have hg : groundP a ts l = ((⟨#[]⟩ : ByteArray), [], m2) := by unfold groundP; rw [if_pos hm1, if_neg (by rw [hm2]; exact q2), hm2]
  have d2 := bne_iff_ne.2 q2
  have d1 := beq_false_of_ne q2
  go_upto_region 5 with (first
   | (go_at_call 58; with_reducible refine (H1.out _ HB.out).mono ?_; rintro e wk ⟨rfl, hb⟩; replace HB := Aside0.mk (HB.out.trans (hb.mono HB.out.size)); replace k0 := blk_below k0 hb; replace k4 := blk_below k4 hb; replace a0 := mvc hb a0; replace a1 := mvc hb a1; clear hb)
   | (go_at_call 34; with_reducible refine (H2.out _ HB.out).mono ?_; rintro e wk ⟨rfl, hb⟩; replace HB := Aside0.mk (HB.out.trans (hb.mono HB.out.size)); replace k0 := blk_below k0 hb; replace k4 := blk_below k4 hb; replace a0 := mvc hb a0; replace a1 := mvc hb a1; clear hb)
   | fail)
  have q0 : wk.cell? ⟨g4, 0, none⟩ = some (.string ⟨#[]⟩) := blk_cell k4 0
  have q1 : wk.cell? ⟨g4, 1, none⟩ = some (.slice none 0 0) := blk_cell k4 1
  have p0 := blk_frozen k4 0
  have p1 := blk_frozen k4 1
  go_wp2
  have kR : ((wk.setCell ⟨g4, 0, none⟩ (.string ⟨#[]⟩)).setCell ⟨g4, 1, none⟩ (.slice none 0 0)).heap[g4]? = some (.cells #[.string ⟨#[]⟩, .slice none 0 0] 58 (0, 0)) := blk_set (blk_set k4 0 _) 1 _
  refine bodyPost_ret (results_ct rfl _ _ g4 58 #[.string ⟨#[]⟩, .slice none 0 0] (0, 0) _ rfl kR Tryz.underlying58 rfl (by kernel_rfl)) rfl ?_
  rw [hg]
  have o := HGB.out
  exact ⟨none, 0, rfl, Nat.le_refl _, Kd.R_nil _ _ _ _ _, (HB.out.setCell (by show w.heap.size ≤ g4; omega) _).setCell (by show w.heap.size ≤ g4; omega) _⟩
 subst q2
 have hll : l.length ≤ 1000000 := by have := HL2.out hm2; omega
 have HG := Aside0.mk (HGt0.out hll)
 have HP : Aside0 (groundP a ts l = match grL l ts with | some r => (a, r, 0) | none => ((⟨#[]⟩ : ByteArray), [], 5)) := ⟨by unfold groundP; rw [if_pos hm1, if_pos hm2]; cases grL l ts <;> rfl⟩
 clear HGt0 HL2 hm1 hm2 hll
 go_upto_region 6 with (first
  | (go_at_call 58; with_reducible refine (H1.out _ HB.out).mono ?_; rintro e wk ⟨rfl, hb⟩; replace HB := Aside0.mk (HB.out.trans (hb.mono HB.out.size)); replace k0 := blk_below k0 hb; replace k4 := blk_below k4 hb; replace a0 := mvc hb a0; replace a1 := mvc hb a1; clear hb)
  | (go_at_call 34; with_reducible refine (H2.out _ HB.out).mono ?_; rintro e wk ⟨rfl, hb⟩; replace HB := Aside0.mk (HB.out.trans (hb.mono HB.out.size)); replace k0 := blk_below k0 hb; replace k4 := blk_below k4 hb; replace a0 := mvc hb a0; replace a1 := mvc hb a1; clear hb)
  | fail)
 have HK := Aside0.mk (And.intro k0 (And.intro k4 HB.out))
 clear H1 H2
 go_upto_region 7 with fail
 refine wp_world (fun W => ∃ g6, GI w W a (.slice A ts.length c) g0 g4 g6 (g6 + 1) (.slice none 0 0) [] ∧ g6 = wk.heap.size) ⟨_, ⟨blk_below HK.out.1 ((Go.RowKit.Below.refl _ _).alloc (Nat.le_refl _) _), blk_below HK.out.2.1 ((Go.RowKit.Below.refl _ _).alloc (Nat.le_refl _) _), blk_new wk _, ⟨[], own_nil _ _ _ _, rfl, fun j p h => by simp at h⟩, HK.out.2.2.alloc HK.out.2.2.size _, by have := HGB.out; omega, by have := HGB.out; omega, blk_lt HK.out.2.1, by omega, by simp⟩, rfl⟩ ?_
 clear k0 k4 a0 a1 HB HK
 generalize wk.heap.size = gz
 rintro w2 ⟨g6, hI, rfl⟩
 generalize hbs : g6 + 1 = base at hI
 have HI2 := Aside0.mk hI
 have a1 : w2.cell? ⟨g0, 1, none⟩ = some (.slice A ts.length c) := blk_cell hI.bx 1
 clear hI hbs
 go_wp2
 go_loopg [28] ts.length (fun gg s28 wr => ∃ (R : Option Addr) (rc j : Nat), s28 = .int .i64 j ∧ j ≤ ts.length ∧ ts.length - j ≤ gg ∧ Aside0 (∃ acc : List S64, acc.length = j ∧ GI w wr a (.slice A ts.length c) g0 g4 g6 base (.slice R j rc) acc ∧ (grL l ts).map (([] : List S64) ++ ·) = (grL l (ts.drop j)).map (acc ++ ·)))
 case atStart => exact ⟨none, 0, 0, rfl, Nat.zero_le _, Nat.le_refl _, ⟨[], rfl, HI2.out, rfl⟩⟩
 case round =>
  clear HI2 a1
  obtain ⟨R, rc, j, rfl, hj, hg, HI⟩ := hrel
  obtain ⟨acc, hI⟩ := HI.out
  have HI := Aside0.mk hI
  clear hI
  by_cases hlt : j < ts.length
  ·have hltz : (j : Int) < (ts.length : Int) := by omega
   have hjz : (0 : Int) ≤ (j : Int) := by omega
   obtain ⟨ad, eA, t0, t1, t2, t3⟩ := at_T92 (Kd.C_below HR.out HI.out.2.1.bel) (j : Int) hjz hltz
   rw [show ((j : Int)).toNat * 4 = j * 4 by omega] at t0 t1 t2 t3
   have HD := Aside0.mk (show ts.drop j = rd_T92 ts (j : Int) :: ts.drop (j + 1) by rw [List.drop_eq_getElem_cons hlt, rdT_get hlt])
   generalize rd_T92 ts (j : Int) = t at *
   have kw : IntKind.i64.wrap ((j : Int) + 1) = ((j + 1 : Nat) : Int) := by rw [show (j : Int) + 1 = ((j + 1 : Nat) : Int) by omega]; exact kwrap (by omega) (by omega)
   have HJ := Aside0.mk hlt
   have hjl : j ≤ 1000000 := by omega
   clear hlt
   subst eA
   have hbv : Go.RowKit.Below wr.heap.size wr ((wr.alloc (.cells #[.string t.f0, .int .i64 t.f1.f0, .int .i64 t.f1.f1, .string t.f1.f2] 92)).alloc (.cells #[.int .i64 t.f1.f0, .int .i64 t.f1.f1, .string t.f1.f2] 64)) := ((Go.RowKit.Below.refl _ wr).alloc (Nat.le_refl _) _).alloc (by simp) _
   go_upto_region 11 with fail
   refine wp_world (fun V => V.heap[wr.heap.size + 1]? = some (.cells #[.int .i64 t.f1.f0, .int .i64 t.f1.f1, .string t.f1.f2] 64 (0, 0)) ∧ V.cell? ⟨wr.heap.size, 0, none⟩ = some (.string t.f0) ∧ Go.RowKit.Below wr.heap.size wr V) ⟨by have h := blk_new (wr.alloc (.cells #[.string t.f0, .int .i64 t.f1.f0, .int .i64 t.f1.f1, .string t.f1.f2] 92)) (.cells #[.int .i64 t.f1.f0, .int .i64 t.f1.f1, .string t.f1.f2] 64); simpa using h, by simp, hbv⟩ ?_
   clear hbv t0 t1 t2 t3
   have HLT := Aside0.mk (fun k hk => (HI.out.2.1.own.lt (k := k) hk).2)
   generalize hg9 : wr.heap.size + 1 = g9
   generalize hg8 : wr.heap.size = g8 at HLT hg9 ⊢
   rintro w3 ⟨k8, t0, hb3⟩
   rw [← hg8] at hb3
   have HG8 := Aside0.mk (show base ≤ g9 by rw [← hg9, ← hg8]; have := HI.out.2.1.ord.2.2.2.2; omega)
   have HG9 := Aside0.mk (show g8 < g9 by omega)
   have HI3 := Aside0.mk (And.intro HI.out.1 (And.intro (HI.out.2.1.below hb3) HI.out.2.2))
   clear hb3 hg8 hg9 HI
   by_cases hc : con t
   ·have d1 : (t.f0.toList != ([] : List UInt8)) = false := by rw [con_size3, decide_eq_true hc]; rfl
    have d2 : (t.f0.toList == ([] : List UInt8)) = true := beq_iff_eq.2 hc
    have HV : Aside0 ((grL l ts).map (([] : List S64) ++ ·) = (grL l (ts.drop (j + 1))).map ((acc ++ [t.f1]) ++ ·)) := ⟨by rw [HI3.out.2.2, HD.out, grL_con hc]⟩
    clear hc
    go_upto_region 13 with fail
    generalize t.f1 = x at *
    have k0 : w3.cell? ⟨g9, 0, none⟩ = some (.int .i64 x.f0) := blk_cell k8 0
    have k1 : w3.cell? ⟨g9, 1, none⟩ = some (.int .i64 x.f1) := blk_cell k8 1
    have k2 : w3.cell? ⟨g9, 2, none⟩ = some (.string x.f2) := blk_cell k8 2
    have u1 : w3.cell? ⟨g6, 1, none⟩ = some (.slice R j rc) := blk_cell HI3.out.2.1.blk 1
    go_wp2_with (first
     | (at_builtin; obtain ⟨A', c', w7, happ, hO, hb⟩ := appendG (W := w3) base R j rc acc x HI3.out.2.1.own HI3.out.1 HI3.out.2.1.ord.2.2.2.2 hjl; have hst := HI3.out.2.1.step hO hb; have k7 : w7.cell? ⟨g6, 1, none⟩ = some (.slice R j rc) := blk_cell hst.1 1; have f7 := blk_frozen hst.1 1; have HST := Aside0.mk hst.2; refine Lib.wpList_append_run _ (by rfl) (.tmp 48) (.tmp 50) 56 56 (by rfl) (.slice R j rc) (.slice (some ⟨w3.heap.size, 0, none⟩) 1 1) (by rfl) (by rfl) (.slice A' (j + 1) c') w7 (happ 56) ?_; clear hO hb happ hst)
     | fail)
    go_roundg (ts.length - (j + 1))
    case measure => have := HJ.out; omega
    case rel => exact ⟨A', c', j + 1, by go_num, by have := HJ.out; omega, Nat.le_refl _, ⟨acc ++ [x], by simp [HI3.out.1], HST.out, HV.out⟩⟩
   ·have d1 : (t.f0.toList != ([] : List UInt8)) = true := by rw [con_size3, decide_eq_false hc]; rfl
    have d2 : (t.f0.toList == ([] : List UInt8)) = false := beq_false_of_ne hc
    have HC := Aside0.mk hc
    clear hc
    obtain ⟨x, ok, hgx⟩ : ∃ (x : S64) (ok : Bool), getP l t.f0 = (x.f0, x.f1, x.f2, ok) := ⟨⟨(getP l t.f0).1, (getP l t.f0).2.1, (getP l t.f0).2.2.1⟩, (getP l t.f0).2.2.2, rfl⟩
    have HGt : Aside0 (∀ W, Go.RowKit.Below w.heap.size w W → Calls Tryz.prog 36 #[.slice B l.length bc, .string t.f0] W fun e w' => e = .returned (.tuple #[.agg #[.int .i64 x.f0, .int .i64 x.f1, .string x.f2], .bool ok]) ∧ Go.RowKit.Below W.heap.size W w') := ⟨fun W hW => by have := HG.out W t.f0 hW; rwa [hgx] at this⟩
    have HX := Aside0.mk hgx
    clear hgx
    go_upto_region 13 with (first
     | (go_at_call 36; with_reducible refine (HGt.out _ HI3.out.2.1.bel).mono ?_; rintro e w4 ⟨rfl, hb⟩; have HI4 := Aside0.mk (HI3.out.2.1.below hb); replace t0 := mvc hb t0; replace k8 := blk_below k8 hb; clear hb; have k0 : w4.cell? ⟨g9, 0, none⟩ = some (.int .i64 t.f1.f0) := (blk_cell k8 0).trans rfl; have k1 : w4.cell? ⟨g9, 1, none⟩ = some (.int .i64 t.f1.f1) := (blk_cell k8 1).trans rfl; have k2 : w4.cell? ⟨g9, 2, none⟩ = some (.string t.f1.f2) := (blk_cell k8 2).trans rfl; have f0 := blk_frozen k8 0; have f1 := blk_frozen k8 1; have f2 := blk_frozen k8 2)
     | fail)
    have hown : ∀ k, (Value.slice R j rc).ownBlock = some k → k ≠ g9 := fun k hk e => by have := HLT.out k hk; have := HG9.out; omega
    refine wp_world (fun V => V.heap[g9]? = some (.cells #[.int .i64 x.f0, .int .i64 x.f1, .string x.f2] 64 (0, 0)) ∧ GI w V a (.slice (some ad) ts.length c) g0 g4 g6 base (.slice R j rc) acc) ⟨blk_set (blk_set (blk_set k8 0 _) 1 _) 2 _, ((HI4.out.set HG8.out hown _).set HG8.out hown _).set HG8.out hown _⟩ ?_
    clear k8 t0 HI4 k0 k1 k2 f0 f1 f2 hown
    have HA3 := Aside0.mk HI3.out.2.2
    have HL3 := Aside0.mk HI3.out.1
    clear HI3
    rintro w3 ⟨k8, hI3⟩
    have HI3 := Aside0.mk (And.intro HL3.out (And.intro hI3 HA3.out))
    clear hI3
    cases ok with
    | false =>
     have HE : Aside0 (grL l ts = none) := ⟨by
      have := HA3.out
      rw [HD.out, grL_no HC.out (by rw [HX.out])] at this
      cases h : grL l ts with
      | none => rfl
      | some r => rw [h] at this; simp at this⟩
     have q0 : w3.cell? ⟨g4, 0, none⟩ = some (.string ⟨#[]⟩) := blk_cell HI3.out.2.1.res 0
     have q1 : w3.cell? ⟨g4, 1, none⟩ = some (.slice none 0 0) := blk_cell HI3.out.2.1.res 1
     have p0 := blk_frozen HI3.out.2.1.res 0
     have p1 := blk_frozen HI3.out.2.1.res 1
     go_wp2
     have kR : ((w3.setCell ⟨g4, 0, none⟩ (.string ⟨#[]⟩)).setCell ⟨g4, 1, none⟩ (.slice none 0 0)).heap[g4]? = some (.cells #[.string ⟨#[]⟩, .slice none 0 0] 58 (0, 0)) := blk_set (blk_set HI3.out.2.1.res 0 _) 1 _
     refine bodyPost_ret (results_ct rfl _ _ g4 58 #[.string ⟨#[]⟩, .slice none 0 0] (0, 0) _ rfl kR Tryz.underlying58 rfl (by kernel_rfl)) rfl ?_
     have hgr : groundP a ts l = ((⟨#[]⟩ : ByteArray), [], 5) := by rw [HP.out, HE.out]
     rw [hgr]
     have o := HI3.out.2.1.ord
     exact ⟨none, 0, rfl, Nat.le_refl _, Kd.R_nil _ _ _ _ _, (HI3.out.2.1.bel.setCell (by show w.heap.size ≤ g4; omega) _).setCell (by show w.heap.size ≤ g4; omega) _⟩
    | true =>
     have HV : Aside0 ((grL l ts).map (([] : List S64) ++ ·) = (grL l (ts.drop (j + 1))).map ((acc ++ [x]) ++ ·)) := ⟨by
      rw [HA3.out, HD.out, grL_var HC.out (by rw [HX.out]), HX.out]⟩
     have k0 : w3.cell? ⟨g9, 0, none⟩ = some (.int .i64 x.f0) := blk_cell k8 0
     have k1 : w3.cell? ⟨g9, 1, none⟩ = some (.int .i64 x.f1) := blk_cell k8 1
     have k2 : w3.cell? ⟨g9, 2, none⟩ = some (.string x.f2) := blk_cell k8 2
     have u1 : w3.cell? ⟨g6, 1, none⟩ = some (.slice R j rc) := blk_cell HI3.out.2.1.blk 1
     go_wp2_with (first
      | (at_builtin; obtain ⟨A', c', w7, happ, hO, hb⟩ := appendG (W := w3) base R j rc acc x HI3.out.2.1.own HI3.out.1 HI3.out.2.1.ord.2.2.2.2 hjl; have hst := HI3.out.2.1.step hO hb; have k7 : w7.cell? ⟨g6, 1, none⟩ = some (.slice R j rc) := blk_cell hst.1 1; have f7 := blk_frozen hst.1 1; have HST := Aside0.mk hst.2; refine Lib.wpList_append_run _ (by rfl) (.tmp 48) (.tmp 50) 56 56 (by rfl) (.slice R j rc) (.slice (some ⟨w3.heap.size, 0, none⟩) 1 1) (by rfl) (by rfl) (.slice A' (j + 1) c') w7 (happ 56) ?_; clear hO hb happ hst)
      | fail)
     go_roundg (ts.length - (j + 1))
     case measure => have := HJ.out; omega
     case rel => exact ⟨A', c', j + 1, by go_num, by have := HJ.out; omega, Nat.le_refl _, ⟨acc ++ [x], by simp [HI3.out.1], HST.out, HV.out⟩⟩
  ·have hltz : ¬ (j : Int) < (ts.length : Int) := by omega
   have HE : Aside0 (grL l ts = some acc) := ⟨by
    have := HI.out.2.2
    rw [List.drop_eq_nil_of_le (by omega)] at this
    cases h : grL l ts with
    | none => rw [h] at this; simp [grL] at this
    | some r => rw [h] at this; simpa [grL] using this⟩
   have q0 : wr.cell? ⟨g4, 0, none⟩ = some (.string ⟨#[]⟩) := blk_cell HI.out.2.1.res 0
   have q1 : wr.cell? ⟨g4, 1, none⟩ = some (.slice none 0 0) := blk_cell HI.out.2.1.res 1
   have p0 := blk_frozen HI.out.2.1.res 0
   have p1 := blk_frozen HI.out.2.1.res 1
   have u0 : wr.cell? ⟨g6, 0, none⟩ = some (.string a) := blk_cell HI.out.2.1.blk 0
   have u1 : wr.cell? ⟨g6, 1, none⟩ = some (.slice R j rc) := blk_cell HI.out.2.1.blk 1
   go_wp2
   have kR : ((wr.setCell ⟨g4, 0, none⟩ (.string a)).setCell ⟨g4, 1, none⟩ (.slice R j rc)).heap[g4]? = some (.cells #[.string a, .slice R j rc] 58 (0, 0)) := blk_set (blk_set HI.out.2.1.res 0 _) 1 _
   refine bodyPost_ret (results_ct rfl _ _ g4 58 #[.string a, .slice R j rc] (0, 0) _ rfl kR Tryz.underlying58 rfl (by kernel_rfl)) rfl ?_
   have hgr : groundP a ts l = (a, acc, 0) := by rw [HP.out, HE.out]
   rw [hgr]
   have o := HI.out.2.1.ord
   have hown : ∀ k, (Value.slice R j rc).ownBlock = some k → k ≠ g4 := fun k hk e => by have := (HI.out.2.1.own.lt hk).1; omega
   have hro := (HI.out.2.1.own.set (p := ⟨g4, 0, none⟩) hown (.string a)).set (p := ⟨g4, 1, none⟩) hown (.slice R j rc)
   have hrow := hro.row HI.out.1
   rw [show (a, acc, (0 : Int)).2.1.length = j from HI.out.1]
   exact ⟨R, rc, rfl, hrow.1, hro.kd (by omega), (HI.out.2.1.bel.setCell (by show w.heap.size ≤ g4; omega) _).setCell (by show w.heap.size ≤ g4; omega) _⟩
end Go.Proofs.YtghommaokdhjmaaGreat.Sat
/- sat's seer: whether an event is an atom with the values. -/
namespace Go.Proofs.YtghommaokdhjmaaGreat.Sat
open Go.RowKit Go.Lib Go.Sort Go.Proofs.SymP Go.Proofs.YtghommaokdhjmaaGreatW.PrintWords P FactC IRow Frm SpecM SpecB PSat CmpF BothB
instance : Inhabited S58 := ⟨z58⟩
def evP (t : List S58) (b : List S66) (x : S25) (p : Nat) : Bool := (groundP x.f0 x.f1 b).2.2 == 0 && factCmp (groundP x.f0 x.f1 b).1 (groundP x.f0 x.f1 b).2.1 (rd_T58 t (p : Int)).f0 (rd_T58 t (p : Int)).f1 == 0
theorem grL_len (l : List S66) : ∀ (ts : List S92) (r : List S64), grL l ts = some r → r.length = ts.length := by
 intro ts
 induction ts with
 | nil => intro r h; simp only [grL] at h; injection h with h; subst h; rfl
 | cons t ts ih =>
  intro r h
  simp only [grL] at h
  split at h
  ·rcases hq : grL l ts with _ | q
   ·rw [hq] at h; cases h
   ·rw [hq] at h; simp at h; subst h; simp [ih q hq]
  ·split at h
   ·rcases hq : grL l ts with _ | q
    ·rw [hq] at h; cases h
    ·rw [hq] at h; simp at h; subst h; simp [ih q hq]
   ·cases h
theorem ground_len (a : ByteArray) (ts : List S92) (l : List S66) : (groundP a ts l).2.1.length ≤ ts.length := by
 unfold groundP
 split
 ·split
  ·split
   ·rename_i r hr; simp [grL_len l ts r hr]
   ·simp
  ·simp
 ·simp
structure TRow (W : World) (A : Option Addr) (n c : Nat) (l : List S58) : Prop where
 len : l.length = n
 cap : n ≤ c
 C : Kd.C k58 W A n l
theorem TRow.below {W W' : World} {A : Option Addr} {n c : Nat} {l : List S58} (h : TRow W A n c l) (hb : Go.RowKit.Below W.heap.size W W') : TRow W' A n c l := ⟨h.len, h.cap, Kd.C_below h.C hb⟩
structure BRow (W : World) (A : Option Addr) (n c : Nat) (l : List S66) : Prop where
 len : l.length = n
 cap : n ≤ c
 C : Kd.C k66 W A n l
theorem BRow.below {W W' : World} {A : Option Addr} {n c : Nat} {l : List S66} (h : BRow W A n c l) (hb : Go.RowKit.Below W.heap.size W W') : BRow W' A n c l := ⟨h.len, h.cap, Kd.C_below h.C hb⟩
theorem cell_st {W : World} {a p : Addr} {v u : Value} (hne : a.block ≠ p.block) (h : W.cell? a = some v) : (W.setCell p u).cell? a = some v := (World.cell?_of_block (Go.RowKit.Below.heap_setCell W p u a.block hne)).trans h
theorem set2 {w : World} {g : Nat} {a b u v : Value} (h0 : w.cell? ⟨g, 0, none⟩ = some a) (h1 : w.cell? ⟨g, 1, none⟩ = some b) : ((w.setCell ⟨g, 0, none⟩ u).setCell ⟨g, 1, none⟩ v).cell? ⟨g, 0, none⟩ = some u ∧ ((w.setCell ⟨g, 0, none⟩ u).setCell ⟨g, 1, none⟩ v).cell? ⟨g, 1, none⟩ = some v :=
 ⟨(World.cell?_setCell_other _ _ _ _ (by simp)).trans (World.cell?_setCell_same _ _ _ h0), World.cell?_setCell_same _ _ _ ((World.cell?_setCell_other _ _ _ _ (by simp)).trans h1)⟩
def fitA (x : S25) : Prop := x.f0.size ≤ 1000000 ∧ fitT x.f1 = true ∧ x.f1.length ≤ 1000
set_option maxHeartbeats 8000000 in
set_option maxRecDepth 1000000 in
theorem is_calls {W : World} {S : Nat} {T B A : Option Addr} {tn tc bn bc c : Nat} {t : List S58} {b : List S66} {x : S25} {p : Nat} (h1 : W.cell? ⟨S, 1, none⟩ = some (.slice T tn tc)) (h2 : W.cell? ⟨S, 2, none⟩ = some (.slice B bn bc)) (ht : TRow W T tn tc t) (hb : BRow W B bn bc b)
  (hA : Kd.C k92 W A x.f1.length x.f1) (hc : x.f1.length ≤ c) (hx : fitA x) (hfb : PSpec.fitB b = true) (hft : ∀ y ∈ t, y.f1.length ≤ 1000000) (hp : p < tn) :
  Calls Tryz.prog 100 #[.pointer (some ⟨S, 0, none⟩), .agg #[.string x.f0, .slice A x.f1.length c], .int .i64 (p : Int)] W fun e w' => e = .returned (.bool (evP t b x p)) ∧ Go.RowKit.Below W.heap.size W w' := by
 have hu25 := Tryz.underlying25
 have hu58 := Tryz.underlying58
 have hgl := ground_len x.f0 x.f1 b
 have HG : Aside0 (∀ W', Go.RowKit.Below W.heap.size W W' → Calls Tryz.prog 122 #[.agg #[.string x.f0, .slice A x.f1.length c], .slice B bn bc] W' fun e w' => ∃ A' c', e = .returned (.tuple #[.agg #[.string (groundP x.f0 x.f1 b).1, .slice A' (groundP x.f0 x.f1 b).2.1.length c'], .int .i64 (groundP x.f0 x.f1 b).2.2]) ∧ (groundP x.f0 x.f1 b).2.1.length ≤ c' ∧ Kd.R k64 64 w' W'.heap.size (fun _ => True) (.slice A' (groundP x.f0 x.f1 b).2.1.length c') (groundP x.f0 x.f1 b).2.1 ∧ Go.RowKit.Below W'.heap.size W' w') := ⟨fun W' hW => by
  have hb' := hb.below hW
  obtain rfl := hb.len
  exact ground_calls x.f0 (Kd.C_below hA hW) hc hb'.C hb'.cap hx.1 hx.2.1 hfb hx.2.2⟩
 obtain ⟨ad, A1, c1, eT, y0, y1, y2, y3⟩ := at_T58 ht.C (p : Int) (by omega) (by omega)
 subst eT
 unfold evP
 have hyl : (rd_T58 t (p : Int)).f1.length ≤ 1000000 := by
  have hlt : p < t.length := by rw [ht.len]; exact hp
  unfold rd_T58
  rw [Int.toNat_natCast, List.getD_eq_getElem?_getD, List.getElem?_eq_getElem hlt]
  exact hft _ (List.getElem_mem hlt)
 generalize rd_T58 t (p : Int) = y at *
 generalize (groundP x.f0 x.f1 b).1 = gn at *
 generalize (groundP x.f0 x.f1 b).2.1 = gl at *
 generalize (groundP x.f0 x.f1 b).2.2 = ge at *
 rw [show ((p : Int)).toNat * 2 = p * 2 by omega] at y0 y1
 have HC : Aside0 (∀ W' W2 A' c', Go.RowKit.Below W.heap.size W W' → gl.length ≤ c' → Kd.C k64 W2 A' gl.length gl → Go.RowKit.Below W2.heap.size W2 W' → Calls Tryz.prog 123 #[.agg #[.string gn, .slice A' gl.length c'], .agg #[.string y.f0, .slice A1 y.f1.length c1]] W' fun e w' => e = .returned (.int .i64 (factCmp gn gl y.f0 y.f1)) ∧ Go.RowKit.Below W'.heap.size W' w') := ⟨fun W' W2 A' c' hW h1 h2 h3 => fact_Compare.calls gn A' c' gl y.f0 A1 c1 y.f1 _ W' (Kd.C_below h2 h3) h1 (Kd.C_below y3 hW) y2 (by unfold fact_Compare.f; rw [if_pos ⟨by have := hx.2.2; omega, hyl⟩])⟩
 generalize factCmp gn gl y.f0 y.f1 = fc at HC ⊢
 have htn : (p : Int) < (tn : Int) := by omega
 have hp0 : (0 : Int) ≤ (p : Int) := by omega
 have htc := ht.cap
 clear hgl ht hb hA hc hx hfb hft hyl y2 y3
 have l1 := World.block_lt_of_cell? _ _ h1
 have ly := World.block_lt_of_cell? _ _ y0
 go_enter Tryz.func100, Tryz.ntmps100
 go_wp2
 have hb0 : Go.RowKit.Below W.heap.size W (W.alloc (.cells #[.string x.f0, .slice A x.f1.length c] 25)) := (Go.RowKit.Below.refl _ W).alloc (Nat.le_refl _) _
 refine wp_world (fun V => V.cell? ⟨W.heap.size, 0, none⟩ = some (.string x.f0) ∧ V.cell? ⟨W.heap.size, 1, none⟩ = some (.slice A x.f1.length c) ∧ Go.RowKit.Below W.heap.size W V) ⟨by simp, by simp, hb0⟩ ?_
 clear hb0
 rintro w0 ⟨z0, z1, hb0⟩
 replace h1 := mvc hb0 h1
 replace h2 := mvc hb0 h2
 replace y1 := (hb0.cell (p := ⟨(ad.add (p * 2)).block, (ad.add (p * 2)).off + 1, none⟩) ly).trans y1
 replace y0 := (hb0.cell ly).trans y0
 have HB0 := Aside0.mk hb0
 clear hb0 l1 ly
 have lz : W.heap.size < w0.heap.size := World.block_lt_of_cell? _ _ z0
 have lS : S < w0.heap.size := World.block_lt_of_cell? _ _ h2
 have zf : (Value.string (⟨#[]⟩ : ByteArray)).oneCell' = true := rfl
 go_region_held3 (fun w' => w'.cell? ⟨W.heap.size, 0, none⟩ = some (.string x.f0) ∧ w'.cell? ⟨W.heap.size, 1, none⟩ = some (.slice A x.f1.length c) ∧ w'.cell? ⟨S, 2, none⟩ = some (.slice B bn bc))
  (first | (refine ⟨?_, ?_, ?_⟩ <;> first | assumption | (apply cell_al; assumption) | (refine cell_st ?_ (cell_st ?_ ?_) <;> first | assumption | (simp; omega))) | go_keep)
  (first
   | (go_at_call 122; (with_reducible refine (HG.out (w0.alloc (.cells #[.string ⟨#[]⟩, .slice none 0 0] 58)).drew (by repeat (first | exact HB0.out | apply below_alloc | apply below_drew1))).mono ?_); rintro e w1 ⟨A', c', rfl, l1, hR, hb⟩; have q0 : w1.heap[w0.heap.size]? = some (.cells #[.string ⟨#[]⟩, .slice none 0 0] 58 (0, 0)) := (hb.block w0.heap.size (by simp)).trans (heap_alloc_new w0 _); have s1 := (hb.cell (World.block_lt_of_cell? (w0.alloc (.cells #[.string ⟨#[]⟩, .slice none 0 0] 58)).drew _ (cell_al _ z0))).trans (cell_al _ z0); have s2 := (hb.cell (World.block_lt_of_cell? (w0.alloc (.cells #[.string ⟨#[]⟩, .slice none 0 0] 58)).drew _ (cell_al _ z1))).trans (cell_al _ z1); have s3 := (hb.cell (World.block_lt_of_cell? (w0.alloc (.cells #[.string ⟨#[]⟩, .slice none 0 0] 58)).drew _ (cell_al _ h2))).trans (cell_al _ h2); have fr0 := blk_frozen q0 0; have fr1 := blk_frozen q0 1; have ce0 := blk_cell q0 0; have ce1 := blk_cell q0 1)
   | (go_at_call 122; (with_reducible refine (HG.out w0.drew (by repeat (first | exact HB0.out | apply below_alloc | apply below_drew1))).mono ?_); rintro e w1 ⟨A', c', rfl, l1, hR, hb⟩; have s1 := mvc hb z0; have s2 := mvc hb z1; have s3 := mvc hb h2)
   | fail)
 all_goals go_wp2
 ·have hb1 : Go.RowKit.Below w0.heap.size w0 w1 := (below_drew1 (Go.RowKit.Below.refl _ _)).trans hb
  have hb2 : Go.RowKit.Below w0.heap.size w0 (w1.alloc (.cells #[.string gn, .slice A' gl.length c'] 58)) := hb1.alloc hb1.size _
  refine wp_world (fun V => V.cell? ⟨w1.heap.size, 0, none⟩ = some (.string gn) ∧ V.cell? ⟨w1.heap.size, 1, none⟩ = some (.slice A' gl.length c') ∧ V.cell? ⟨S, 1, none⟩ = some (.slice (some ad) tn tc) ∧ V.cell? (ad.add (p * 2)) = some (.string y.f0) ∧ V.cell? ⟨(ad.add (p * 2)).block, (ad.add (p * 2)).off + 1, none⟩ = some (.slice A1 y.f1.length c1) ∧ Go.RowKit.Below W.heap.size W V ∧ Kd.C k64 V A' gl.length gl)
   ⟨by simp, by simp, mvc hb2 h1, mvc hb2 y0, mvc hb2 y1, HB0.out.trans (hb2.mono HB0.out.size), Kd.C_below (Kd.R_reads' hR).2.2 ((Go.RowKit.Below.refl _ w1).alloc (Nat.le_refl _) _)⟩ ?_
  generalize w1.heap.size = gf
  clear hb hb1 hb2 s1 s2 s3 z0 z1 h1 h2 y0 y1 hR zf lz lS
  rintro V ⟨z0, z1, h1, y0, y1, hbV, hCV⟩
  have HBV := Aside0.mk hbV
  have HCV := Aside0.mk hCV
  clear hbV hCV
  have hd1 : Go.RowKit.Below V.heap.size V V.drew := below_drew1 (Go.RowKit.Below.refl _ _)
  have hC2 : Aside0 (Calls Tryz.prog 123 #[.agg #[.string gn, .slice A' gl.length c'], .agg #[.string y.f0, .slice A1 y.f1.length c1]] V.drew fun e w' => e = .returned (.int .i64 fc) ∧ Go.RowKit.Below V.heap.size V w') := ⟨(HC.out V.drew V A' c' (HBV.out.trans (hd1.mono HBV.out.size)) l1 HCV.out hd1).mono fun e w' h => ⟨h.1, hd1.trans h.2⟩⟩
  clear HC
  by_cases hge : ge = 0
  ·subst hge
   go_region_held3 (fun w' => w'.cell? ⟨gf, 0, none⟩ = some (.string gn) ∧ w'.cell? ⟨gf, 1, none⟩ = some (.slice A' gl.length c') ∧ w'.cell? ⟨S, 1, none⟩ = some (.slice (some ad) tn tc) ∧ w'.cell? (ad.add (p * 2)) = some (.string y.f0) ∧ w'.cell? ⟨(ad.add (p * 2)).block, (ad.add (p * 2)).off + 1, none⟩ = some (.slice A1 y.f1.length c1))
    (first | (refine ⟨?_, ?_, ?_, ?_, ?_⟩ <;> assumption) | go_keep)
    (first
     | (go_at_call 123; (with_reducible refine hC2.out.mono ?_); rintro e w3 ⟨rfl, hb⟩; have HB3 := Aside0.mk (HBV.out.trans (hb.mono HBV.out.size)); replace z0 := mvc hb z0; replace z1 := mvc hb z1; replace h1 := mvc hb h1; replace y0 := mvc hb y0; replace y1 := mvc hb y1; clear hb)
     | fail)
   all_goals go_wp2
   all_goals go_ret
   all_goals exact ⟨by simp, HB3.out⟩
  ·have hgz : (ge == 0) = false := by simp [hge]
   have hgz' : decide (ge = 0) = false := by simp [hge]
   go_quiet (fail)
   go_wp2
   go_ret
   exact ⟨by simp [hge], pw_below_drewN HBV.out _⟩
 ·have hb1 : Go.RowKit.Below w0.heap.size w0 w1 := (below_drew1 ((Go.RowKit.Below.refl _ w0).alloc (Nat.le_refl _) _)).trans (hb.mono (by simp))
  have hb2 : Go.RowKit.Below w0.heap.size w0 ((w1.setCell ⟨w0.heap.size, 0, none⟩ (.string gn)).setCell ⟨w0.heap.size, 1, none⟩ (.slice A' gl.length c')) := below_set (below_set hb1 (Nat.le_refl _)) (Nat.le_refl _)
  have hR2 := Kd.R_far (p := ⟨w0.heap.size, 1, none⟩) (Kd.R_bound (Kd.R_far (p := ⟨w0.heap.size, 0, none⟩) (Kd.R_bound hR) (fun k hk => by have := hk.2.1; simp at this; simp; omega) (.string gn))) (fun k hk => by have := hk.2.1; simp at this; simp; omega) (.slice A' gl.length c')
  refine wp_world (fun V => V.cell? ⟨w0.heap.size, 0, none⟩ = some (.string gn) ∧ V.cell? ⟨w0.heap.size, 1, none⟩ = some (.slice A' gl.length c') ∧ V.cell? ⟨S, 1, none⟩ = some (.slice (some ad) tn tc) ∧ V.cell? (ad.add (p * 2)) = some (.string y.f0) ∧ V.cell? ⟨(ad.add (p * 2)).block, (ad.add (p * 2)).off + 1, none⟩ = some (.slice A1 y.f1.length c1) ∧ Go.RowKit.Below W.heap.size W V ∧ Kd.C k64 V A' gl.length gl)
   ⟨(set2 (by simpa using ce0) (by simpa using ce1)).1, (set2 (by simpa using ce0) (by simpa using ce1)).2, mvc hb2 h1, mvc hb2 y0, mvc hb2 y1, HB0.out.trans (hb2.mono HB0.out.size), (Kd.R_reads' hR2).2.2⟩ ?_
  clear hb hb1 hb2 s1 s2 s3 z0 z1 h1 h2 y0 y1 hR hR2 zf lS q0 fr0 fr1 ce0 ce1
  generalize w0.heap.size = gf
  clear lz
  rintro V ⟨z0, z1, h1, y0, y1, hbV, hCV⟩
  have HBV := Aside0.mk hbV
  have HCV := Aside0.mk hCV
  clear hbV hCV
  have hd1 : Go.RowKit.Below V.heap.size V V.drew := below_drew1 (Go.RowKit.Below.refl _ _)
  have hC2 : Aside0 (Calls Tryz.prog 123 #[.agg #[.string gn, .slice A' gl.length c'], .agg #[.string y.f0, .slice A1 y.f1.length c1]] V.drew fun e w' => e = .returned (.int .i64 fc) ∧ Go.RowKit.Below V.heap.size V w') := ⟨(HC.out V.drew V A' c' (HBV.out.trans (hd1.mono HBV.out.size)) l1 HCV.out hd1).mono fun e w' h => ⟨h.1, hd1.trans h.2⟩⟩
  clear HC
  by_cases hge : ge = 0
  ·subst hge
   go_region_held3 (fun w' => w'.cell? ⟨gf, 0, none⟩ = some (.string gn) ∧ w'.cell? ⟨gf, 1, none⟩ = some (.slice A' gl.length c') ∧ w'.cell? ⟨S, 1, none⟩ = some (.slice (some ad) tn tc) ∧ w'.cell? (ad.add (p * 2)) = some (.string y.f0) ∧ w'.cell? ⟨(ad.add (p * 2)).block, (ad.add (p * 2)).off + 1, none⟩ = some (.slice A1 y.f1.length c1))
    (first | (refine ⟨?_, ?_, ?_, ?_, ?_⟩ <;> assumption) | go_keep)
    (first
     | (go_at_call 123; (with_reducible refine hC2.out.mono ?_); rintro e w3 ⟨rfl, hb⟩; have HB3 := Aside0.mk (HBV.out.trans (hb.mono HBV.out.size)); replace z0 := mvc hb z0; replace z1 := mvc hb z1; replace h1 := mvc hb h1; replace y0 := mvc hb y0; replace y1 := mvc hb y1; clear hb)
     | fail)
   all_goals go_wp2
   all_goals go_ret
   all_goals exact ⟨by simp, HB3.out⟩
  ·have hgz : (ge == 0) = false := by simp [hge]
   have hgz' : decide (ge = 0) = false := by simp [hge]
   go_quiet (fail)
   go_wp2
   go_ret
   exact ⟨by simp [hge], pw_below_drewN HBV.out _⟩
end Go.Proofs.YtghommaokdhjmaaGreat.Sat
/- sat's seer: whether a node holds at a place, by the rows of the nodes ahead. -/
namespace Go.Proofs.YtghommaokdhjmaaGreat.Sat
open Go.RowKit Go.Lib Go.Sort Go.Proofs.SymP Go.Proofs.YtghommaokdhjmaaGreatW.PrintWords P FactC IRow Frm SpecM SpecB PSat CmpF BothB
def RowsB (W : World) (gR m N : Nat) (rows : List (Nat → Bool)) : Prop := ∀ z, z < m → ∃ g, W.cell? ⟨gR, z, none⟩ = some (.slice (some ⟨g, 0, none⟩) N N) ∧ ∀ p, p < N → W.cell? ⟨g, p, none⟩ = some (.bool (rows.getD z (fun _ => false) p))
theorem RowsB.below {W W' : World} {gR m N : Nat} {rows : List (Nat → Bool)} (h : RowsB W gR m N rows) (hb : Go.RowKit.Below W.heap.size W W') : RowsB W' gR m N rows := fun z hz => by
 obtain ⟨g, h1, h2⟩ := h z hz
 exact ⟨g, mvc hb h1, fun p hp => (hb.cell (World.block_lt_of_cell? _ _ (h2 p hp))).trans (h2 p hp)⟩
theorem once_at (f : Nat → Bool) (n : Nat) : (n = 0 → onceR f n = f n) ∧ (0 < n → onceR f n = (onceR f (n - 1) || f n)) := by
 cases n with
 | zero => exact ⟨fun _ => rfl, fun h => absurd h (by omega)⟩
 | succ n => exact ⟨fun h => absurd h (by omega), fun _ => rfl⟩
theorem always_at (f : Nat → Bool) (n : Nat) : (n = 0 → alwaysR f n = f n) ∧ (0 < n → alwaysR f n = (f n && alwaysR f (n - 1))) := by
 cases n with
 | zero => exact ⟨fun _ => rfl, fun h => absurd h (by omega)⟩
 | succ n => exact ⟨fun h => absurd h (by omega), fun _ => rfl⟩
theorem since_at (f g : Nat → Bool) (n : Nat) : (n = 0 → sinceR f g n = g n) ∧ (0 < n → sinceR f g n = (g n || (sinceR f g (n - 1) && f n))) := by
 cases n with
 | zero => exact ⟨fun _ => rfl, fun h => absurd h (by omega)⟩
 | succ n => exact ⟨fun h => absurd h (by omega), fun _ => rfl⟩
theorem before_at (f : Nat → Bool) (n : Nat) : (n = 0 → beforeR f n = false) ∧ (0 < n → beforeR f n = f (n - 1)) := by
 cases n with
 | zero => exact ⟨fun _ => rfl, fun h => absurd h (by omega)⟩
 | succ n => exact ⟨fun h => absurd h (by omega), fun _ => rfl⟩
structure HIn (W : World) (S gR gw m rc N n : Nat) (T B A : Option Addr) (tn tc bn bc c : Nat) (t : List S58) (b : List S66) (rows : List (Nat → Bool)) (x : S62) : Prop where
 h1 : W.cell? ⟨S, 1, none⟩ = some (.slice T tn tc)
 h2 : W.cell? ⟨S, 2, none⟩ = some (.slice B bn bc)
 h3 : 0 < m → W.cell? ⟨S, 3, none⟩ = some (.slice (some ⟨gR, 0, none⟩) m rc)
 ht : TRow W T tn tc t
 hb : BRow W B bn bc b
 hA : Kd.C k92 W A x.f1.f1.length x.f1.f1
 hc : x.f1.f1.length ≤ c
 hx : fitA x.f1
 hfb : PSpec.fitB b = true
 hft : ∀ y ∈ t, y.f1.length ≤ 1000000
 hp : n < tn
 hN : n < N
 hN2 : N ≤ 1000000
 hm : m ≤ 1000000
 hrc : m ≤ rc
 hR : RowsB W gR m N rows
 hcur : ∀ p, p < n → W.cell? ⟨gw, p, none⟩ = some (.bool (rowOf (evP t b) rows x p))
 hin : inN x m
set_option maxHeartbeats 8000000 in
set_option maxRecDepth 1000000 in
theorem holds_is {W : World} {S gR gw m rc N n : Nat} {T B A : Option Addr} {tn tc bn bc c : Nat} {t : List S58} {b : List S66} {rows : List (Nat → Bool)} {x : S62} (h : HIn W S gR gw m rc N n T B A tn tc bn bc c t b rows x) (hk : x.f0 = 1) :
  Calls Tryz.prog 67 #[.pointer (some ⟨S, 0, none⟩), .agg #[.int .i64 x.f0, .string x.f1.f0, .slice A x.f1.f1.length c, .int .i64 x.f2, .int .i64 x.f3], .slice (some ⟨gw, 0, none⟩) N N, .int .i64 (n : Int)] W fun e w' => e = .returned (.bool (rowOf (evP t b) rows x n)) ∧ Go.RowKit.Below W.heap.size W w' := by
 have hu := Tryz.underlying62
 have HC : Aside0 (∀ W', Go.RowKit.Below W.heap.size W W' → Calls Tryz.prog 100 #[.pointer (some ⟨S, 0, none⟩), .agg #[.string x.f1.f0, .slice A x.f1.f1.length c], .int .i64 (n : Int)] W' fun e w' => e = .returned (.bool (evP t b x.f1 n)) ∧ Go.RowKit.Below W'.heap.size W' w') := ⟨fun W' hW => is_calls ((hW.cell (World.block_lt_of_cell? _ _ h.h1)).trans h.h1) ((hW.cell (World.block_lt_of_cell? _ _ h.h2)).trans h.h2) (h.ht.below hW) (h.hb.below hW) (Kd.C_below h.hA hW) h.hc h.hx h.hfb h.hft h.hp⟩
 have hr : ∀ p, rowOf (evP t b) rows x p = evP t b x.f1 p := fun p => by unfold rowOf; rw [if_pos hk]
 have hcur := h.hcur
 have hN := h.hN
 have hN2 := h.hN2
 rw [hr n]
 simp only [hr] at hcur
 have HCur := Aside0.mk hcur
 clear h hcur hr
 rw [hk]
 clear hk
 have nz : (0 : Int) ≤ (n : Int) := by omega
 have hNz : (n : Int) < (N : Int) := by omega
 have hb0 : Go.RowKit.Below W.heap.size W (W.alloc (.cells #[.int .i64 1, .string x.f1.f0, .slice A x.f1.f1.length c, .int .i64 x.f2, .int .i64 x.f3] 62)) := (Go.RowKit.Below.refl _ W).alloc (Nat.le_refl _) _
 by_cases hn : n = 0
 ·have d0 : decide (0 < (n : Int)) = false := by simp; omega
  have d0' : ¬ (0 : Int) < (n : Int) := by omega
  have d0n : ¬ 0 < n := by omega
  clear hn
  go_enter Tryz.func67, Tryz.ntmps67
  go_upto_region 1 with fail
  refine wp_world (fun V => V.cell? ⟨W.heap.size, 0, none⟩ = some (.int .i64 1) ∧ V.cell? ⟨W.heap.size, 1, none⟩ = some (.string x.f1.f0) ∧ V.cell? ⟨W.heap.size, 2, none⟩ = some (.slice A x.f1.f1.length c) ∧ Go.RowKit.Below W.heap.size W V) ⟨by simp, by simp, by simp, hb0⟩ ?_
  clear hb0
  rintro w0 ⟨z0, z1, z2, hb0⟩
  have HB0 := Aside0.mk hb0
  clear hb0
  go_wp2_with (go_at_call 100; with_reducible refine (HC.out _ HB0.out).mono ?_; rintro e w1 ⟨rfl, hb⟩; have HB := Aside0.mk (HB0.out.trans (hb.mono HB0.out.size)); clear hb)
  go_ret
  exact ⟨rfl, HB.out⟩
 ·have d0 : decide (0 < (n : Int)) = true := by simp; omega
  have kw : IntKind.i64.wrap ((n : Int) - 1) = (n : Int) - 1 := kwrap (by omega) (by omega)
  have n1z : (0 : Int) ≤ (n : Int) - 1 := by omega
  have n1y : (n : Int) - 1 < (N : Int) := by omega
  have tn1 : ((n : Int) - 1).toNat = n - 1 := by omega
  have kc := HCur.out (n - 1) (by omega)
  generalize evP t b x.f1 (n - 1) = ah at kc
  clear hn
  go_enter Tryz.func67, Tryz.ntmps67
  go_upto_region 1 with fail
  refine wp_world (fun V => V.cell? ⟨W.heap.size, 0, none⟩ = some (.int .i64 1) ∧ V.cell? ⟨W.heap.size, 1, none⟩ = some (.string x.f1.f0) ∧ V.cell? ⟨W.heap.size, 2, none⟩ = some (.slice A x.f1.f1.length c) ∧ V.cell? ⟨gw, n - 1, none⟩ = some (.bool ah) ∧ Go.RowKit.Below W.heap.size W V) ⟨by simp, by simp, by simp, mvc hb0 kc, hb0⟩ ?_
  clear hb0 kc
  rintro w0 ⟨z0, z1, z2, kc, hb0⟩
  have HB0 := Aside0.mk hb0
  clear hb0
  go_wp2_with (go_at_call 100; with_reducible refine (HC.out _ HB0.out).mono ?_; rintro e w1 ⟨rfl, hb⟩; have HB := Aside0.mk (HB0.out.trans (hb.mono HB0.out.size)); clear hb)
  go_ret
  exact ⟨rfl, HB.out⟩
set_option maxHeartbeats 8000000 in
set_option maxRecDepth 1000000 in
theorem holds_k2 {W : World} {S gR gw m rc N n : Nat} {T B A : Option Addr} {tn tc bn bc c : Nat} {t : List S58} {b : List S66} {rows : List (Nat → Bool)} {x : S62} (h : HIn W S gR gw m rc N n T B A tn tc bn bc c t b rows x) (hk : x.f0 = 2) :
  Calls Tryz.prog 67 #[.pointer (some ⟨S, 0, none⟩), .agg #[.int .i64 x.f0, .string x.f1.f0, .slice A x.f1.f1.length c, .int .i64 x.f2, .int .i64 x.f3], .slice (some ⟨gw, 0, none⟩) N N, .int .i64 (n : Int)] W fun e w' => e = .returned (.bool (rowOf (evP t b) rows x n)) ∧ Go.RowKit.Below W.heap.size W w' := by
 have hu := Tryz.underlying62
 have hA2 := h.hin.1 (by rw [hk]; decide)
 obtain ⟨u, hu2⟩ : ∃ u : Nat, x.f2 = (u : Int) := ⟨x.f2.toNat, by omega⟩
 obtain ⟨gA, kA, cA⟩ := h.hR u (by omega)
 have kA1 := cA n h.hN
 have hum : u < m := by omega
 have huz : (u : Int) < (m : Int) := by omega
 have k3 := h.h3 (by omega)
 have hr : ∀ p, rowOf (evP t b) rows x p = opR 2 (rows.getD u (fun _ => false)) (getR rows x.f3) p := fun p => by
  unfold rowOf
  rw [if_neg (by rw [hk]; decide), hk, hu2]
  rfl
 have hN := h.hN
 have hN2 := h.hN2
 have hm := h.hm
 have hrc := h.hrc
 have HCur := Aside0.mk h.hcur
 have nz : (0 : Int) ≤ (n : Int) := by omega
 have hNz : (n : Int) < (N : Int) := by omega
 have hb0 : Go.RowKit.Below W.heap.size W (W.alloc (.cells #[.int .i64 x.f0, .string x.f1.f0, .slice A x.f1.f1.length c, .int .i64 x.f2, .int .i64 x.f3] 62)) := (Go.RowKit.Below.refl _ W).alloc (Nat.le_refl _) _
 by_cases hn : n = 0
 ·have hres : rowOf (evP t b) rows x n = (!(rows.getD u (fun _ => false) n)) := by rw [hr n]; rfl
  have d0 : decide (0 < (n : Int)) = false := by simp; omega
  have d0' : ¬ (0 : Int) < (n : Int) := by omega
  have d0n : ¬ 0 < n := by omega
  have d1 : ((n : Int) == 0) = true := by simp; omega
  have d1n : (n == 0) = true := by simp; omega
  rw [hres]
  clear hres hr cA h hA2 hn HCur
  generalize rows.getD u (fun _ => false) n = a1 at kA1 ⊢
  rw [hk, hu2] at hb0 ⊢
  clear hk hu2
  all_goals (
   go_enter Tryz.func67, Tryz.ntmps67
   go_upto_region 1 with fail
   refine wp_world (fun V => V.cell? ⟨W.heap.size, 0, none⟩ = some (.int .i64 2) ∧ V.cell? ⟨W.heap.size, 3, none⟩ = some (.int .i64 (u : Int)) ∧ V.cell? ⟨S, 3, none⟩ = W.cell? ⟨S, 3, none⟩ ∧ V.cell? ⟨gR, u, none⟩ = W.cell? ⟨gR, u, none⟩ ∧ V.cell? ⟨gA, n, none⟩ = W.cell? ⟨gA, n, none⟩ ∧ Go.RowKit.Below W.heap.size W V) ⟨by simp, by simp, hb0.cell (World.block_lt_of_cell? _ _ k3), hb0.cell (World.block_lt_of_cell? _ _ kA), hb0.cell (World.block_lt_of_cell? _ _ kA1), hb0⟩ ?_
   clear hb0
   rintro w0 ⟨z0, z3, q3, qA, qA1, hb0⟩
   replace q3 := q3.trans k3
   replace qA := qA.trans kA
   replace qA1 := qA1.trans kA1
   have HB0 := Aside0.mk hb0
   clear hb0 k3 kA kA1
   go_wp2
   go_quiet (fail)
   go_wp2
   go_ret
   exact ⟨by first | rfl | simp, pw_below_drewN HB0.out _⟩)
 ·have hres : rowOf (evP t b) rows x n = (!(rows.getD u (fun _ => false) n)) := by rw [hr n]; rfl
  have d0 : decide (0 < (n : Int)) = true := by simp; omega
  have d1 : ((n : Int) == 0) = false := by simp; omega
  have d1n : (n == 0) = false := by simp; omega
  have d0n : 0 < n := by omega
  have kw : IntKind.i64.wrap ((n : Int) - 1) = (n : Int) - 1 := kwrap (by omega) (by omega)
  have n1z : (0 : Int) ≤ (n : Int) - 1 := by omega
  have n1y : (n : Int) - 1 < (N : Int) := by omega
  have tn1 : ((n : Int) - 1).toNat = n - 1 := by omega
  have kc := HCur.out (n - 1) (by omega)
  rw [hres]
  clear hres hr cA h hA2 hn HCur
  generalize rows.getD u (fun _ => false) n = a1 at kA1 ⊢
  generalize rowOf (evP t b) rows x (n - 1) = ah at kc ⊢
  rw [hk, hu2] at hb0 ⊢
  clear hk hu2
  all_goals (
   go_enter Tryz.func67, Tryz.ntmps67
   go_upto_region 1 with fail
   refine wp_world (fun V => V.cell? ⟨W.heap.size, 0, none⟩ = some (.int .i64 2) ∧ V.cell? ⟨W.heap.size, 3, none⟩ = some (.int .i64 (u : Int)) ∧ V.cell? ⟨S, 3, none⟩ = W.cell? ⟨S, 3, none⟩ ∧ V.cell? ⟨gR, u, none⟩ = W.cell? ⟨gR, u, none⟩ ∧ V.cell? ⟨gA, n, none⟩ = W.cell? ⟨gA, n, none⟩ ∧ V.cell? ⟨gw, n - 1, none⟩ = W.cell? ⟨gw, n - 1, none⟩ ∧ Go.RowKit.Below W.heap.size W V) ⟨by simp, by simp, hb0.cell (World.block_lt_of_cell? _ _ k3), hb0.cell (World.block_lt_of_cell? _ _ kA), hb0.cell (World.block_lt_of_cell? _ _ kA1), hb0.cell (World.block_lt_of_cell? _ _ kc), hb0⟩ ?_
   clear hb0
   rintro w0 ⟨z0, z3, q3, qA, qA1, qc, hb0⟩
   replace q3 := q3.trans k3
   replace qA := qA.trans kA
   replace qA1 := qA1.trans kA1
   replace qc := qc.trans kc
   have HB0 := Aside0.mk hb0
   clear hb0 k3 kA kA1 kc
   go_wp2
   go_quiet (fail)
   go_wp2
   go_ret
   exact ⟨by first | rfl | simp, pw_below_drewN HB0.out _⟩)
set_option maxHeartbeats 8000000 in
set_option maxRecDepth 1000000 in
theorem holds_k3 {W : World} {S gR gw m rc N n : Nat} {T B A : Option Addr} {tn tc bn bc c : Nat} {t : List S58} {b : List S66} {rows : List (Nat → Bool)} {x : S62} (h : HIn W S gR gw m rc N n T B A tn tc bn bc c t b rows x) (hk : x.f0 = 3) :
  Calls Tryz.prog 67 #[.pointer (some ⟨S, 0, none⟩), .agg #[.int .i64 x.f0, .string x.f1.f0, .slice A x.f1.f1.length c, .int .i64 x.f2, .int .i64 x.f3], .slice (some ⟨gw, 0, none⟩) N N, .int .i64 (n : Int)] W fun e w' => e = .returned (.bool (rowOf (evP t b) rows x n)) ∧ Go.RowKit.Below W.heap.size W w' := by
 have hu := Tryz.underlying62
 have hA2 := h.hin.1 (by rw [hk]; decide)
 obtain ⟨u, hu2⟩ : ∃ u : Nat, x.f2 = (u : Int) := ⟨x.f2.toNat, by omega⟩
 obtain ⟨gA, kA, cA⟩ := h.hR u (by omega)
 have kA1 := cA n h.hN
 have hB2 := h.hin.2.1 (by rw [hk]; decide)
 obtain ⟨v, hv2⟩ : ∃ v : Nat, x.f3 = (v : Int) := ⟨x.f3.toNat, by omega⟩
 obtain ⟨gB, kB, cB⟩ := h.hR v (by omega)
 have kB1 := cB n h.hN
 have hvm : v < m := by omega
 have hvz : (v : Int) < (m : Int) := by omega
 have hum : u < m := by omega
 have huz : (u : Int) < (m : Int) := by omega
 have k3 := h.h3 (by omega)
 have hr : ∀ p, rowOf (evP t b) rows x p = opR 3 (rows.getD u (fun _ => false)) (getR rows x.f3) p := fun p => by
  unfold rowOf
  rw [if_neg (by rw [hk]; decide), hk, hu2]
  rfl
 rw [hv2] at hr
 replace hr : ∀ p, rowOf (evP t b) rows x p = opR 3 (rows.getD u (fun _ => false)) (rows.getD v (fun _ => false)) p := hr
 have hN := h.hN
 have hN2 := h.hN2
 have hm := h.hm
 have hrc := h.hrc
 have HCur := Aside0.mk h.hcur
 have nz : (0 : Int) ≤ (n : Int) := by omega
 have hNz : (n : Int) < (N : Int) := by omega
 have hb0 : Go.RowKit.Below W.heap.size W (W.alloc (.cells #[.int .i64 x.f0, .string x.f1.f0, .slice A x.f1.f1.length c, .int .i64 x.f2, .int .i64 x.f3] 62)) := (Go.RowKit.Below.refl _ W).alloc (Nat.le_refl _) _
 by_cases hn : n = 0
 ·have hres : rowOf (evP t b) rows x n = ((rows.getD u (fun _ => false) n) && (rows.getD v (fun _ => false) n)) := by rw [hr n]; rfl
  have d0 : decide (0 < (n : Int)) = false := by simp; omega
  have d0' : ¬ (0 : Int) < (n : Int) := by omega
  have d0n : ¬ 0 < n := by omega
  have d1 : ((n : Int) == 0) = true := by simp; omega
  have d1n : (n == 0) = true := by simp; omega
  rw [hres]
  clear hres hr cA cB h hA2 hB2 hn HCur
  generalize rows.getD u (fun _ => false) n = a1 at kA1 ⊢
  generalize rows.getD v (fun _ => false) n = b1 at kB1 ⊢
  rw [hk, hu2, hv2] at hb0 ⊢
  clear hk hu2 hv2
  cases a1
  all_goals (
   go_enter Tryz.func67, Tryz.ntmps67
   go_upto_region 1 with fail
   refine wp_world (fun V => V.cell? ⟨W.heap.size, 0, none⟩ = some (.int .i64 3) ∧ V.cell? ⟨W.heap.size, 3, none⟩ = some (.int .i64 (u : Int)) ∧ V.cell? ⟨W.heap.size, 4, none⟩ = some (.int .i64 (v : Int)) ∧ V.cell? ⟨S, 3, none⟩ = W.cell? ⟨S, 3, none⟩ ∧ V.cell? ⟨gR, u, none⟩ = W.cell? ⟨gR, u, none⟩ ∧ V.cell? ⟨gA, n, none⟩ = W.cell? ⟨gA, n, none⟩ ∧ V.cell? ⟨gR, v, none⟩ = W.cell? ⟨gR, v, none⟩ ∧ V.cell? ⟨gB, n, none⟩ = W.cell? ⟨gB, n, none⟩ ∧ Go.RowKit.Below W.heap.size W V) ⟨by simp, by simp, by simp, hb0.cell (World.block_lt_of_cell? _ _ k3), hb0.cell (World.block_lt_of_cell? _ _ kA), hb0.cell (World.block_lt_of_cell? _ _ kA1), hb0.cell (World.block_lt_of_cell? _ _ kB), hb0.cell (World.block_lt_of_cell? _ _ kB1), hb0⟩ ?_
   clear hb0
   rintro w0 ⟨z0, z3, z4, q3, qA, qA1, qB, qB1, hb0⟩
   replace q3 := q3.trans k3
   replace qA := qA.trans kA
   replace qA1 := qA1.trans kA1
   replace qB := qB.trans kB
   replace qB1 := qB1.trans kB1
   have HB0 := Aside0.mk hb0
   clear hb0 k3 kA kA1 kB kB1
   go_wp2
   go_quiet (fail)
   go_wp2
   go_ret
   exact ⟨by first | rfl | simp, pw_below_drewN HB0.out _⟩)
 ·have hres : rowOf (evP t b) rows x n = ((rows.getD u (fun _ => false) n) && (rows.getD v (fun _ => false) n)) := by rw [hr n]; rfl
  have d0 : decide (0 < (n : Int)) = true := by simp; omega
  have d1 : ((n : Int) == 0) = false := by simp; omega
  have d1n : (n == 0) = false := by simp; omega
  have d0n : 0 < n := by omega
  have kw : IntKind.i64.wrap ((n : Int) - 1) = (n : Int) - 1 := kwrap (by omega) (by omega)
  have n1z : (0 : Int) ≤ (n : Int) - 1 := by omega
  have n1y : (n : Int) - 1 < (N : Int) := by omega
  have tn1 : ((n : Int) - 1).toNat = n - 1 := by omega
  have kc := HCur.out (n - 1) (by omega)
  rw [hres]
  clear hres hr cA cB h hA2 hB2 hn HCur
  generalize rows.getD u (fun _ => false) n = a1 at kA1 ⊢
  generalize rows.getD v (fun _ => false) n = b1 at kB1 ⊢
  generalize rowOf (evP t b) rows x (n - 1) = ah at kc ⊢
  rw [hk, hu2, hv2] at hb0 ⊢
  clear hk hu2 hv2
  cases a1
  all_goals (
   go_enter Tryz.func67, Tryz.ntmps67
   go_upto_region 1 with fail
   refine wp_world (fun V => V.cell? ⟨W.heap.size, 0, none⟩ = some (.int .i64 3) ∧ V.cell? ⟨W.heap.size, 3, none⟩ = some (.int .i64 (u : Int)) ∧ V.cell? ⟨W.heap.size, 4, none⟩ = some (.int .i64 (v : Int)) ∧ V.cell? ⟨S, 3, none⟩ = W.cell? ⟨S, 3, none⟩ ∧ V.cell? ⟨gR, u, none⟩ = W.cell? ⟨gR, u, none⟩ ∧ V.cell? ⟨gA, n, none⟩ = W.cell? ⟨gA, n, none⟩ ∧ V.cell? ⟨gR, v, none⟩ = W.cell? ⟨gR, v, none⟩ ∧ V.cell? ⟨gB, n, none⟩ = W.cell? ⟨gB, n, none⟩ ∧ V.cell? ⟨gw, n - 1, none⟩ = W.cell? ⟨gw, n - 1, none⟩ ∧ Go.RowKit.Below W.heap.size W V) ⟨by simp, by simp, by simp, hb0.cell (World.block_lt_of_cell? _ _ k3), hb0.cell (World.block_lt_of_cell? _ _ kA), hb0.cell (World.block_lt_of_cell? _ _ kA1), hb0.cell (World.block_lt_of_cell? _ _ kB), hb0.cell (World.block_lt_of_cell? _ _ kB1), hb0.cell (World.block_lt_of_cell? _ _ kc), hb0⟩ ?_
   clear hb0
   rintro w0 ⟨z0, z3, z4, q3, qA, qA1, qB, qB1, qc, hb0⟩
   replace q3 := q3.trans k3
   replace qA := qA.trans kA
   replace qA1 := qA1.trans kA1
   replace qB := qB.trans kB
   replace qB1 := qB1.trans kB1
   replace qc := qc.trans kc
   have HB0 := Aside0.mk hb0
   clear hb0 k3 kA kA1 kB kB1 kc
   go_wp2
   go_quiet (fail)
   go_wp2
   go_ret
   exact ⟨by first | rfl | simp, pw_below_drewN HB0.out _⟩)
set_option maxHeartbeats 8000000 in
set_option maxRecDepth 1000000 in
theorem holds_k4 {W : World} {S gR gw m rc N n : Nat} {T B A : Option Addr} {tn tc bn bc c : Nat} {t : List S58} {b : List S66} {rows : List (Nat → Bool)} {x : S62} (h : HIn W S gR gw m rc N n T B A tn tc bn bc c t b rows x) (hk : x.f0 = 4) :
  Calls Tryz.prog 67 #[.pointer (some ⟨S, 0, none⟩), .agg #[.int .i64 x.f0, .string x.f1.f0, .slice A x.f1.f1.length c, .int .i64 x.f2, .int .i64 x.f3], .slice (some ⟨gw, 0, none⟩) N N, .int .i64 (n : Int)] W fun e w' => e = .returned (.bool (rowOf (evP t b) rows x n)) ∧ Go.RowKit.Below W.heap.size W w' := by
 have hu := Tryz.underlying62
 have hA2 := h.hin.1 (by rw [hk]; decide)
 obtain ⟨u, hu2⟩ : ∃ u : Nat, x.f2 = (u : Int) := ⟨x.f2.toNat, by omega⟩
 obtain ⟨gA, kA, cA⟩ := h.hR u (by omega)
 have kA1 := cA n h.hN
 have hB2 := h.hin.2.1 (by rw [hk]; decide)
 obtain ⟨v, hv2⟩ : ∃ v : Nat, x.f3 = (v : Int) := ⟨x.f3.toNat, by omega⟩
 obtain ⟨gB, kB, cB⟩ := h.hR v (by omega)
 have kB1 := cB n h.hN
 have hvm : v < m := by omega
 have hvz : (v : Int) < (m : Int) := by omega
 have hum : u < m := by omega
 have huz : (u : Int) < (m : Int) := by omega
 have k3 := h.h3 (by omega)
 have hr : ∀ p, rowOf (evP t b) rows x p = opR 4 (rows.getD u (fun _ => false)) (getR rows x.f3) p := fun p => by
  unfold rowOf
  rw [if_neg (by rw [hk]; decide), hk, hu2]
  rfl
 rw [hv2] at hr
 replace hr : ∀ p, rowOf (evP t b) rows x p = opR 4 (rows.getD u (fun _ => false)) (rows.getD v (fun _ => false)) p := hr
 have hN := h.hN
 have hN2 := h.hN2
 have hm := h.hm
 have hrc := h.hrc
 have HCur := Aside0.mk h.hcur
 have nz : (0 : Int) ≤ (n : Int) := by omega
 have hNz : (n : Int) < (N : Int) := by omega
 have hb0 : Go.RowKit.Below W.heap.size W (W.alloc (.cells #[.int .i64 x.f0, .string x.f1.f0, .slice A x.f1.f1.length c, .int .i64 x.f2, .int .i64 x.f3] 62)) := (Go.RowKit.Below.refl _ W).alloc (Nat.le_refl _) _
 by_cases hn : n = 0
 ·have hres : rowOf (evP t b) rows x n = ((rows.getD u (fun _ => false) n) || (rows.getD v (fun _ => false) n)) := by rw [hr n]; rfl
  have d0 : decide (0 < (n : Int)) = false := by simp; omega
  have d0' : ¬ (0 : Int) < (n : Int) := by omega
  have d0n : ¬ 0 < n := by omega
  have d1 : ((n : Int) == 0) = true := by simp; omega
  have d1n : (n == 0) = true := by simp; omega
  rw [hres]
  clear hres hr cA cB h hA2 hB2 hn HCur
  generalize rows.getD u (fun _ => false) n = a1 at kA1 ⊢
  generalize rows.getD v (fun _ => false) n = b1 at kB1 ⊢
  rw [hk, hu2, hv2] at hb0 ⊢
  clear hk hu2 hv2
  cases a1
  all_goals (
   go_enter Tryz.func67, Tryz.ntmps67
   go_upto_region 1 with fail
   refine wp_world (fun V => V.cell? ⟨W.heap.size, 0, none⟩ = some (.int .i64 4) ∧ V.cell? ⟨W.heap.size, 3, none⟩ = some (.int .i64 (u : Int)) ∧ V.cell? ⟨W.heap.size, 4, none⟩ = some (.int .i64 (v : Int)) ∧ V.cell? ⟨S, 3, none⟩ = W.cell? ⟨S, 3, none⟩ ∧ V.cell? ⟨gR, u, none⟩ = W.cell? ⟨gR, u, none⟩ ∧ V.cell? ⟨gA, n, none⟩ = W.cell? ⟨gA, n, none⟩ ∧ V.cell? ⟨gR, v, none⟩ = W.cell? ⟨gR, v, none⟩ ∧ V.cell? ⟨gB, n, none⟩ = W.cell? ⟨gB, n, none⟩ ∧ Go.RowKit.Below W.heap.size W V) ⟨by simp, by simp, by simp, hb0.cell (World.block_lt_of_cell? _ _ k3), hb0.cell (World.block_lt_of_cell? _ _ kA), hb0.cell (World.block_lt_of_cell? _ _ kA1), hb0.cell (World.block_lt_of_cell? _ _ kB), hb0.cell (World.block_lt_of_cell? _ _ kB1), hb0⟩ ?_
   clear hb0
   rintro w0 ⟨z0, z3, z4, q3, qA, qA1, qB, qB1, hb0⟩
   replace q3 := q3.trans k3
   replace qA := qA.trans kA
   replace qA1 := qA1.trans kA1
   replace qB := qB.trans kB
   replace qB1 := qB1.trans kB1
   have HB0 := Aside0.mk hb0
   clear hb0 k3 kA kA1 kB kB1
   go_wp2
   go_quiet (fail)
   go_wp2
   go_ret
   exact ⟨by first | rfl | simp, pw_below_drewN HB0.out _⟩)
 ·have hres : rowOf (evP t b) rows x n = ((rows.getD u (fun _ => false) n) || (rows.getD v (fun _ => false) n)) := by rw [hr n]; rfl
  have d0 : decide (0 < (n : Int)) = true := by simp; omega
  have d1 : ((n : Int) == 0) = false := by simp; omega
  have d1n : (n == 0) = false := by simp; omega
  have d0n : 0 < n := by omega
  have kw : IntKind.i64.wrap ((n : Int) - 1) = (n : Int) - 1 := kwrap (by omega) (by omega)
  have n1z : (0 : Int) ≤ (n : Int) - 1 := by omega
  have n1y : (n : Int) - 1 < (N : Int) := by omega
  have tn1 : ((n : Int) - 1).toNat = n - 1 := by omega
  have kc := HCur.out (n - 1) (by omega)
  rw [hres]
  clear hres hr cA cB h hA2 hB2 hn HCur
  generalize rows.getD u (fun _ => false) n = a1 at kA1 ⊢
  generalize rows.getD v (fun _ => false) n = b1 at kB1 ⊢
  generalize rowOf (evP t b) rows x (n - 1) = ah at kc ⊢
  rw [hk, hu2, hv2] at hb0 ⊢
  clear hk hu2 hv2
  cases a1
  all_goals (
   go_enter Tryz.func67, Tryz.ntmps67
   go_upto_region 1 with fail
   refine wp_world (fun V => V.cell? ⟨W.heap.size, 0, none⟩ = some (.int .i64 4) ∧ V.cell? ⟨W.heap.size, 3, none⟩ = some (.int .i64 (u : Int)) ∧ V.cell? ⟨W.heap.size, 4, none⟩ = some (.int .i64 (v : Int)) ∧ V.cell? ⟨S, 3, none⟩ = W.cell? ⟨S, 3, none⟩ ∧ V.cell? ⟨gR, u, none⟩ = W.cell? ⟨gR, u, none⟩ ∧ V.cell? ⟨gA, n, none⟩ = W.cell? ⟨gA, n, none⟩ ∧ V.cell? ⟨gR, v, none⟩ = W.cell? ⟨gR, v, none⟩ ∧ V.cell? ⟨gB, n, none⟩ = W.cell? ⟨gB, n, none⟩ ∧ V.cell? ⟨gw, n - 1, none⟩ = W.cell? ⟨gw, n - 1, none⟩ ∧ Go.RowKit.Below W.heap.size W V) ⟨by simp, by simp, by simp, hb0.cell (World.block_lt_of_cell? _ _ k3), hb0.cell (World.block_lt_of_cell? _ _ kA), hb0.cell (World.block_lt_of_cell? _ _ kA1), hb0.cell (World.block_lt_of_cell? _ _ kB), hb0.cell (World.block_lt_of_cell? _ _ kB1), hb0.cell (World.block_lt_of_cell? _ _ kc), hb0⟩ ?_
   clear hb0
   rintro w0 ⟨z0, z3, z4, q3, qA, qA1, qB, qB1, qc, hb0⟩
   replace q3 := q3.trans k3
   replace qA := qA.trans kA
   replace qA1 := qA1.trans kA1
   replace qB := qB.trans kB
   replace qB1 := qB1.trans kB1
   replace qc := qc.trans kc
   have HB0 := Aside0.mk hb0
   clear hb0 k3 kA kA1 kB kB1 kc
   go_wp2
   go_quiet (fail)
   go_wp2
   go_ret
   exact ⟨by first | rfl | simp, pw_below_drewN HB0.out _⟩)
set_option maxHeartbeats 8000000 in
set_option maxRecDepth 1000000 in
theorem holds_k5 {W : World} {S gR gw m rc N n : Nat} {T B A : Option Addr} {tn tc bn bc c : Nat} {t : List S58} {b : List S66} {rows : List (Nat → Bool)} {x : S62} (h : HIn W S gR gw m rc N n T B A tn tc bn bc c t b rows x) (hk : x.f0 = 5) :
  Calls Tryz.prog 67 #[.pointer (some ⟨S, 0, none⟩), .agg #[.int .i64 x.f0, .string x.f1.f0, .slice A x.f1.f1.length c, .int .i64 x.f2, .int .i64 x.f3], .slice (some ⟨gw, 0, none⟩) N N, .int .i64 (n : Int)] W fun e w' => e = .returned (.bool (rowOf (evP t b) rows x n)) ∧ Go.RowKit.Below W.heap.size W w' := by
 have hu := Tryz.underlying62
 have hA2 := h.hin.1 (by rw [hk]; decide)
 obtain ⟨u, hu2⟩ : ∃ u : Nat, x.f2 = (u : Int) := ⟨x.f2.toNat, by omega⟩
 obtain ⟨gA, kA, cA⟩ := h.hR u (by omega)
 have kA1 := cA n h.hN
 have hum : u < m := by omega
 have huz : (u : Int) < (m : Int) := by omega
 have k3 := h.h3 (by omega)
 have hr : ∀ p, rowOf (evP t b) rows x p = opR 5 (rows.getD u (fun _ => false)) (getR rows x.f3) p := fun p => by
  unfold rowOf
  rw [if_neg (by rw [hk]; decide), hk, hu2]
  rfl
 have hN := h.hN
 have hN2 := h.hN2
 have hm := h.hm
 have hrc := h.hrc
 have HCur := Aside0.mk h.hcur
 have nz : (0 : Int) ≤ (n : Int) := by omega
 have hNz : (n : Int) < (N : Int) := by omega
 have hb0 : Go.RowKit.Below W.heap.size W (W.alloc (.cells #[.int .i64 x.f0, .string x.f1.f0, .slice A x.f1.f1.length c, .int .i64 x.f2, .int .i64 x.f3] 62)) := (Go.RowKit.Below.refl _ W).alloc (Nat.le_refl _) _
 by_cases hn : n = 0
 ·have hres : rowOf (evP t b) rows x n = (false) := by rw [hr n]; exact (before_at _ n).1 hn
  have d0 : decide (0 < (n : Int)) = false := by simp; omega
  have d0' : ¬ (0 : Int) < (n : Int) := by omega
  have d0n : ¬ 0 < n := by omega
  have d1 : ((n : Int) == 0) = true := by simp; omega
  have d1n : (n == 0) = true := by simp; omega
  rw [hres]
  clear hres hr cA h hA2 hn HCur
  generalize rows.getD u (fun _ => false) n = a1 at kA1 ⊢
  rw [hk, hu2] at hb0 ⊢
  clear hk hu2
  all_goals (
   go_enter Tryz.func67, Tryz.ntmps67
   go_upto_region 1 with fail
   refine wp_world (fun V => V.cell? ⟨W.heap.size, 0, none⟩ = some (.int .i64 5) ∧ V.cell? ⟨W.heap.size, 3, none⟩ = some (.int .i64 (u : Int)) ∧ V.cell? ⟨S, 3, none⟩ = W.cell? ⟨S, 3, none⟩ ∧ V.cell? ⟨gR, u, none⟩ = W.cell? ⟨gR, u, none⟩ ∧ V.cell? ⟨gA, n, none⟩ = W.cell? ⟨gA, n, none⟩ ∧ Go.RowKit.Below W.heap.size W V) ⟨by simp, by simp, hb0.cell (World.block_lt_of_cell? _ _ k3), hb0.cell (World.block_lt_of_cell? _ _ kA), hb0.cell (World.block_lt_of_cell? _ _ kA1), hb0⟩ ?_
   clear hb0
   rintro w0 ⟨z0, z3, q3, qA, qA1, hb0⟩
   replace q3 := q3.trans k3
   replace qA := qA.trans kA
   replace qA1 := qA1.trans kA1
   have HB0 := Aside0.mk hb0
   clear hb0 k3 kA kA1
   go_wp2
   go_quiet (fail)
   go_wp2
   go_ret
   exact ⟨by first | rfl | simp, pw_below_drewN HB0.out _⟩)
 ·have hres : rowOf (evP t b) rows x n = ((rows.getD u (fun _ => false) (n - 1))) := by rw [hr n]; exact (before_at _ n).2 (by omega)
  have d0 : decide (0 < (n : Int)) = true := by simp; omega
  have d1 : ((n : Int) == 0) = false := by simp; omega
  have d1n : (n == 0) = false := by simp; omega
  have d0n : 0 < n := by omega
  have kw : IntKind.i64.wrap ((n : Int) - 1) = (n : Int) - 1 := kwrap (by omega) (by omega)
  have n1z : (0 : Int) ≤ (n : Int) - 1 := by omega
  have n1y : (n : Int) - 1 < (N : Int) := by omega
  have tn1 : ((n : Int) - 1).toNat = n - 1 := by omega
  have kc := HCur.out (n - 1) (by omega)
  have kA0 := cA (n - 1) (by omega)
  rw [hres]
  clear hres hr cA h hA2 hn HCur
  generalize rows.getD u (fun _ => false) n = a1 at kA1 ⊢
  generalize rows.getD u (fun _ => false) (n - 1) = a0 at kA0 ⊢
  generalize rowOf (evP t b) rows x (n - 1) = ah at kc ⊢
  rw [hk, hu2] at hb0 ⊢
  clear hk hu2
  all_goals (
   go_enter Tryz.func67, Tryz.ntmps67
   go_upto_region 1 with fail
   refine wp_world (fun V => V.cell? ⟨W.heap.size, 0, none⟩ = some (.int .i64 5) ∧ V.cell? ⟨W.heap.size, 3, none⟩ = some (.int .i64 (u : Int)) ∧ V.cell? ⟨S, 3, none⟩ = W.cell? ⟨S, 3, none⟩ ∧ V.cell? ⟨gR, u, none⟩ = W.cell? ⟨gR, u, none⟩ ∧ V.cell? ⟨gA, n, none⟩ = W.cell? ⟨gA, n, none⟩ ∧ V.cell? ⟨gw, n - 1, none⟩ = W.cell? ⟨gw, n - 1, none⟩ ∧ V.cell? ⟨gA, n - 1, none⟩ = W.cell? ⟨gA, n - 1, none⟩ ∧ Go.RowKit.Below W.heap.size W V) ⟨by simp, by simp, hb0.cell (World.block_lt_of_cell? _ _ k3), hb0.cell (World.block_lt_of_cell? _ _ kA), hb0.cell (World.block_lt_of_cell? _ _ kA1), hb0.cell (World.block_lt_of_cell? _ _ kc), hb0.cell (World.block_lt_of_cell? _ _ kA0), hb0⟩ ?_
   clear hb0
   rintro w0 ⟨z0, z3, q3, qA, qA1, qc, qA0, hb0⟩
   replace q3 := q3.trans k3
   replace qA := qA.trans kA
   replace qA1 := qA1.trans kA1
   replace qc := qc.trans kc
   replace qA0 := qA0.trans kA0
   have HB0 := Aside0.mk hb0
   clear hb0 k3 kA kA1 kc kA0
   go_wp2
   go_quiet (fail)
   go_wp2
   go_ret
   exact ⟨by first | rfl | simp, pw_below_drewN HB0.out _⟩)
set_option maxHeartbeats 8000000 in
set_option maxRecDepth 1000000 in
theorem holds_k6 {W : World} {S gR gw m rc N n : Nat} {T B A : Option Addr} {tn tc bn bc c : Nat} {t : List S58} {b : List S66} {rows : List (Nat → Bool)} {x : S62} (h : HIn W S gR gw m rc N n T B A tn tc bn bc c t b rows x) (hk : x.f0 = 6) :
  Calls Tryz.prog 67 #[.pointer (some ⟨S, 0, none⟩), .agg #[.int .i64 x.f0, .string x.f1.f0, .slice A x.f1.f1.length c, .int .i64 x.f2, .int .i64 x.f3], .slice (some ⟨gw, 0, none⟩) N N, .int .i64 (n : Int)] W fun e w' => e = .returned (.bool (rowOf (evP t b) rows x n)) ∧ Go.RowKit.Below W.heap.size W w' := by
 have hu := Tryz.underlying62
 have hA2 := h.hin.1 (by rw [hk]; decide)
 obtain ⟨u, hu2⟩ : ∃ u : Nat, x.f2 = (u : Int) := ⟨x.f2.toNat, by omega⟩
 obtain ⟨gA, kA, cA⟩ := h.hR u (by omega)
 have kA1 := cA n h.hN
 have hum : u < m := by omega
 have huz : (u : Int) < (m : Int) := by omega
 have k3 := h.h3 (by omega)
 have hr : ∀ p, rowOf (evP t b) rows x p = opR 6 (rows.getD u (fun _ => false)) (getR rows x.f3) p := fun p => by
  unfold rowOf
  rw [if_neg (by rw [hk]; decide), hk, hu2]
  rfl
 have hN := h.hN
 have hN2 := h.hN2
 have hm := h.hm
 have hrc := h.hrc
 have HCur := Aside0.mk h.hcur
 have nz : (0 : Int) ≤ (n : Int) := by omega
 have hNz : (n : Int) < (N : Int) := by omega
 have hb0 : Go.RowKit.Below W.heap.size W (W.alloc (.cells #[.int .i64 x.f0, .string x.f1.f0, .slice A x.f1.f1.length c, .int .i64 x.f2, .int .i64 x.f3] 62)) := (Go.RowKit.Below.refl _ W).alloc (Nat.le_refl _) _
 by_cases hn : n = 0
 ·have hres : rowOf (evP t b) rows x n = ((rows.getD u (fun _ => false) n)) := by rw [hr n]; exact (once_at _ n).1 hn
  have d0 : decide (0 < (n : Int)) = false := by simp; omega
  have d0' : ¬ (0 : Int) < (n : Int) := by omega
  have d0n : ¬ 0 < n := by omega
  have d1 : ((n : Int) == 0) = true := by simp; omega
  have d1n : (n == 0) = true := by simp; omega
  rw [hres]
  clear hres hr cA h hA2 hn HCur
  generalize rows.getD u (fun _ => false) n = a1 at kA1 ⊢
  rw [hk, hu2] at hb0 ⊢
  clear hk hu2
  all_goals (
   go_enter Tryz.func67, Tryz.ntmps67
   go_upto_region 1 with fail
   refine wp_world (fun V => V.cell? ⟨W.heap.size, 0, none⟩ = some (.int .i64 6) ∧ V.cell? ⟨W.heap.size, 3, none⟩ = some (.int .i64 (u : Int)) ∧ V.cell? ⟨S, 3, none⟩ = W.cell? ⟨S, 3, none⟩ ∧ V.cell? ⟨gR, u, none⟩ = W.cell? ⟨gR, u, none⟩ ∧ V.cell? ⟨gA, n, none⟩ = W.cell? ⟨gA, n, none⟩ ∧ Go.RowKit.Below W.heap.size W V) ⟨by simp, by simp, hb0.cell (World.block_lt_of_cell? _ _ k3), hb0.cell (World.block_lt_of_cell? _ _ kA), hb0.cell (World.block_lt_of_cell? _ _ kA1), hb0⟩ ?_
   clear hb0
   rintro w0 ⟨z0, z3, q3, qA, qA1, hb0⟩
   replace q3 := q3.trans k3
   replace qA := qA.trans kA
   replace qA1 := qA1.trans kA1
   have HB0 := Aside0.mk hb0
   clear hb0 k3 kA kA1
   go_wp2
   go_quiet (fail)
   go_wp2
   go_ret
   exact ⟨by first | rfl | simp, pw_below_drewN HB0.out _⟩)
 ·have hres : rowOf (evP t b) rows x n = ((rowOf (evP t b) rows x (n - 1)) || (rows.getD u (fun _ => false) n)) := by rw [hr n, hr (n - 1)]; exact (once_at _ n).2 (by omega)
  have d0 : decide (0 < (n : Int)) = true := by simp; omega
  have d1 : ((n : Int) == 0) = false := by simp; omega
  have d1n : (n == 0) = false := by simp; omega
  have d0n : 0 < n := by omega
  have kw : IntKind.i64.wrap ((n : Int) - 1) = (n : Int) - 1 := kwrap (by omega) (by omega)
  have n1z : (0 : Int) ≤ (n : Int) - 1 := by omega
  have n1y : (n : Int) - 1 < (N : Int) := by omega
  have tn1 : ((n : Int) - 1).toNat = n - 1 := by omega
  have kc := HCur.out (n - 1) (by omega)
  rw [hres]
  clear hres hr cA h hA2 hn HCur
  generalize rows.getD u (fun _ => false) n = a1 at kA1 ⊢
  generalize rowOf (evP t b) rows x (n - 1) = ah at kc ⊢
  rw [hk, hu2] at hb0 ⊢
  clear hk hu2
  cases ah
  all_goals (
   go_enter Tryz.func67, Tryz.ntmps67
   go_upto_region 1 with fail
   refine wp_world (fun V => V.cell? ⟨W.heap.size, 0, none⟩ = some (.int .i64 6) ∧ V.cell? ⟨W.heap.size, 3, none⟩ = some (.int .i64 (u : Int)) ∧ V.cell? ⟨S, 3, none⟩ = W.cell? ⟨S, 3, none⟩ ∧ V.cell? ⟨gR, u, none⟩ = W.cell? ⟨gR, u, none⟩ ∧ V.cell? ⟨gA, n, none⟩ = W.cell? ⟨gA, n, none⟩ ∧ V.cell? ⟨gw, n - 1, none⟩ = W.cell? ⟨gw, n - 1, none⟩ ∧ Go.RowKit.Below W.heap.size W V) ⟨by simp, by simp, hb0.cell (World.block_lt_of_cell? _ _ k3), hb0.cell (World.block_lt_of_cell? _ _ kA), hb0.cell (World.block_lt_of_cell? _ _ kA1), hb0.cell (World.block_lt_of_cell? _ _ kc), hb0⟩ ?_
   clear hb0
   rintro w0 ⟨z0, z3, q3, qA, qA1, qc, hb0⟩
   replace q3 := q3.trans k3
   replace qA := qA.trans kA
   replace qA1 := qA1.trans kA1
   replace qc := qc.trans kc
   have HB0 := Aside0.mk hb0
   clear hb0 k3 kA kA1 kc
   go_wp2
   go_quiet (fail)
   go_wp2
   go_ret
   exact ⟨by first | rfl | simp, pw_below_drewN HB0.out _⟩)
set_option maxHeartbeats 8000000 in
set_option maxRecDepth 1000000 in
theorem holds_k7 {W : World} {S gR gw m rc N n : Nat} {T B A : Option Addr} {tn tc bn bc c : Nat} {t : List S58} {b : List S66} {rows : List (Nat → Bool)} {x : S62} (h : HIn W S gR gw m rc N n T B A tn tc bn bc c t b rows x) (hk : x.f0 = 7) :
  Calls Tryz.prog 67 #[.pointer (some ⟨S, 0, none⟩), .agg #[.int .i64 x.f0, .string x.f1.f0, .slice A x.f1.f1.length c, .int .i64 x.f2, .int .i64 x.f3], .slice (some ⟨gw, 0, none⟩) N N, .int .i64 (n : Int)] W fun e w' => e = .returned (.bool (rowOf (evP t b) rows x n)) ∧ Go.RowKit.Below W.heap.size W w' := by
 have hu := Tryz.underlying62
 have hA2 := h.hin.1 (by rw [hk]; decide)
 obtain ⟨u, hu2⟩ : ∃ u : Nat, x.f2 = (u : Int) := ⟨x.f2.toNat, by omega⟩
 obtain ⟨gA, kA, cA⟩ := h.hR u (by omega)
 have kA1 := cA n h.hN
 have hum : u < m := by omega
 have huz : (u : Int) < (m : Int) := by omega
 have k3 := h.h3 (by omega)
 have hr : ∀ p, rowOf (evP t b) rows x p = opR 7 (rows.getD u (fun _ => false)) (getR rows x.f3) p := fun p => by
  unfold rowOf
  rw [if_neg (by rw [hk]; decide), hk, hu2]
  rfl
 have hN := h.hN
 have hN2 := h.hN2
 have hm := h.hm
 have hrc := h.hrc
 have HCur := Aside0.mk h.hcur
 have nz : (0 : Int) ≤ (n : Int) := by omega
 have hNz : (n : Int) < (N : Int) := by omega
 have hb0 : Go.RowKit.Below W.heap.size W (W.alloc (.cells #[.int .i64 x.f0, .string x.f1.f0, .slice A x.f1.f1.length c, .int .i64 x.f2, .int .i64 x.f3] 62)) := (Go.RowKit.Below.refl _ W).alloc (Nat.le_refl _) _
 by_cases hn : n = 0
 ·have hres : rowOf (evP t b) rows x n = ((rows.getD u (fun _ => false) n)) := by rw [hr n]; exact (always_at _ n).1 hn
  have d0 : decide (0 < (n : Int)) = false := by simp; omega
  have d0' : ¬ (0 : Int) < (n : Int) := by omega
  have d0n : ¬ 0 < n := by omega
  have d1 : ((n : Int) == 0) = true := by simp; omega
  have d1n : (n == 0) = true := by simp; omega
  rw [hres]
  clear hres hr cA h hA2 hn HCur
  generalize rows.getD u (fun _ => false) n = a1 at kA1 ⊢
  rw [hk, hu2] at hb0 ⊢
  clear hk hu2
  cases a1
  all_goals (
   go_enter Tryz.func67, Tryz.ntmps67
   go_upto_region 1 with fail
   refine wp_world (fun V => V.cell? ⟨W.heap.size, 0, none⟩ = some (.int .i64 7) ∧ V.cell? ⟨W.heap.size, 3, none⟩ = some (.int .i64 (u : Int)) ∧ V.cell? ⟨S, 3, none⟩ = W.cell? ⟨S, 3, none⟩ ∧ V.cell? ⟨gR, u, none⟩ = W.cell? ⟨gR, u, none⟩ ∧ V.cell? ⟨gA, n, none⟩ = W.cell? ⟨gA, n, none⟩ ∧ Go.RowKit.Below W.heap.size W V) ⟨by simp, by simp, hb0.cell (World.block_lt_of_cell? _ _ k3), hb0.cell (World.block_lt_of_cell? _ _ kA), hb0.cell (World.block_lt_of_cell? _ _ kA1), hb0⟩ ?_
   clear hb0
   rintro w0 ⟨z0, z3, q3, qA, qA1, hb0⟩
   replace q3 := q3.trans k3
   replace qA := qA.trans kA
   replace qA1 := qA1.trans kA1
   have HB0 := Aside0.mk hb0
   clear hb0 k3 kA kA1
   go_wp2
   go_quiet (fail)
   go_wp2
   go_ret
   exact ⟨by first | rfl | simp, pw_below_drewN HB0.out _⟩)
 ·have hres : rowOf (evP t b) rows x n = ((rows.getD u (fun _ => false) n) && (rowOf (evP t b) rows x (n - 1))) := by rw [hr n, hr (n - 1)]; exact (always_at _ n).2 (by omega)
  have d0 : decide (0 < (n : Int)) = true := by simp; omega
  have d1 : ((n : Int) == 0) = false := by simp; omega
  have d1n : (n == 0) = false := by simp; omega
  have d0n : 0 < n := by omega
  have kw : IntKind.i64.wrap ((n : Int) - 1) = (n : Int) - 1 := kwrap (by omega) (by omega)
  have n1z : (0 : Int) ≤ (n : Int) - 1 := by omega
  have n1y : (n : Int) - 1 < (N : Int) := by omega
  have tn1 : ((n : Int) - 1).toNat = n - 1 := by omega
  have kc := HCur.out (n - 1) (by omega)
  rw [hres]
  clear hres hr cA h hA2 hn HCur
  generalize rows.getD u (fun _ => false) n = a1 at kA1 ⊢
  generalize rowOf (evP t b) rows x (n - 1) = ah at kc ⊢
  rw [hk, hu2] at hb0 ⊢
  clear hk hu2
  cases a1
  all_goals (
   go_enter Tryz.func67, Tryz.ntmps67
   go_upto_region 1 with fail
   refine wp_world (fun V => V.cell? ⟨W.heap.size, 0, none⟩ = some (.int .i64 7) ∧ V.cell? ⟨W.heap.size, 3, none⟩ = some (.int .i64 (u : Int)) ∧ V.cell? ⟨S, 3, none⟩ = W.cell? ⟨S, 3, none⟩ ∧ V.cell? ⟨gR, u, none⟩ = W.cell? ⟨gR, u, none⟩ ∧ V.cell? ⟨gA, n, none⟩ = W.cell? ⟨gA, n, none⟩ ∧ V.cell? ⟨gw, n - 1, none⟩ = W.cell? ⟨gw, n - 1, none⟩ ∧ Go.RowKit.Below W.heap.size W V) ⟨by simp, by simp, hb0.cell (World.block_lt_of_cell? _ _ k3), hb0.cell (World.block_lt_of_cell? _ _ kA), hb0.cell (World.block_lt_of_cell? _ _ kA1), hb0.cell (World.block_lt_of_cell? _ _ kc), hb0⟩ ?_
   clear hb0
   rintro w0 ⟨z0, z3, q3, qA, qA1, qc, hb0⟩
   replace q3 := q3.trans k3
   replace qA := qA.trans kA
   replace qA1 := qA1.trans kA1
   replace qc := qc.trans kc
   have HB0 := Aside0.mk hb0
   clear hb0 k3 kA kA1 kc
   go_wp2
   go_quiet (fail)
   go_wp2
   go_ret
   exact ⟨by first | rfl | simp, pw_below_drewN HB0.out _⟩)
set_option maxHeartbeats 8000000 in
set_option maxRecDepth 1000000 in
theorem holds_k8 {W : World} {S gR gw m rc N n : Nat} {T B A : Option Addr} {tn tc bn bc c : Nat} {t : List S58} {b : List S66} {rows : List (Nat → Bool)} {x : S62} (h : HIn W S gR gw m rc N n T B A tn tc bn bc c t b rows x) (hk : x.f0 = 8) :
  Calls Tryz.prog 67 #[.pointer (some ⟨S, 0, none⟩), .agg #[.int .i64 x.f0, .string x.f1.f0, .slice A x.f1.f1.length c, .int .i64 x.f2, .int .i64 x.f3], .slice (some ⟨gw, 0, none⟩) N N, .int .i64 (n : Int)] W fun e w' => e = .returned (.bool (rowOf (evP t b) rows x n)) ∧ Go.RowKit.Below W.heap.size W w' := by
 have hu := Tryz.underlying62
 have hA2 := h.hin.1 (by rw [hk]; decide)
 obtain ⟨u, hu2⟩ : ∃ u : Nat, x.f2 = (u : Int) := ⟨x.f2.toNat, by omega⟩
 obtain ⟨gA, kA, cA⟩ := h.hR u (by omega)
 have kA1 := cA n h.hN
 have hB2 := h.hin.2.1 (by rw [hk]; decide)
 obtain ⟨v, hv2⟩ : ∃ v : Nat, x.f3 = (v : Int) := ⟨x.f3.toNat, by omega⟩
 obtain ⟨gB, kB, cB⟩ := h.hR v (by omega)
 have kB1 := cB n h.hN
 have hvm : v < m := by omega
 have hvz : (v : Int) < (m : Int) := by omega
 have hum : u < m := by omega
 have huz : (u : Int) < (m : Int) := by omega
 have k3 := h.h3 (by omega)
 have hr : ∀ p, rowOf (evP t b) rows x p = opR 8 (rows.getD u (fun _ => false)) (getR rows x.f3) p := fun p => by
  unfold rowOf
  rw [if_neg (by rw [hk]; decide), hk, hu2]
  rfl
 rw [hv2] at hr
 replace hr : ∀ p, rowOf (evP t b) rows x p = opR 8 (rows.getD u (fun _ => false)) (rows.getD v (fun _ => false)) p := hr
 have hN := h.hN
 have hN2 := h.hN2
 have hm := h.hm
 have hrc := h.hrc
 have HCur := Aside0.mk h.hcur
 have nz : (0 : Int) ≤ (n : Int) := by omega
 have hNz : (n : Int) < (N : Int) := by omega
 have hb0 : Go.RowKit.Below W.heap.size W (W.alloc (.cells #[.int .i64 x.f0, .string x.f1.f0, .slice A x.f1.f1.length c, .int .i64 x.f2, .int .i64 x.f3] 62)) := (Go.RowKit.Below.refl _ W).alloc (Nat.le_refl _) _
 by_cases hn : n = 0
 ·have hres : rowOf (evP t b) rows x n = ((rows.getD v (fun _ => false) n)) := by rw [hr n]; exact (since_at _ _ n).1 hn
  have d0 : decide (0 < (n : Int)) = false := by simp; omega
  have d0' : ¬ (0 : Int) < (n : Int) := by omega
  have d0n : ¬ 0 < n := by omega
  have d1 : ((n : Int) == 0) = true := by simp; omega
  have d1n : (n == 0) = true := by simp; omega
  rw [hres]
  clear hres hr cA cB h hA2 hB2 hn HCur
  generalize rows.getD u (fun _ => false) n = a1 at kA1 ⊢
  generalize rows.getD v (fun _ => false) n = b1 at kB1 ⊢
  rw [hk, hu2, hv2] at hb0 ⊢
  clear hk hu2 hv2
  cases b1
  all_goals (
   go_enter Tryz.func67, Tryz.ntmps67
   go_upto_region 1 with fail
   refine wp_world (fun V => V.cell? ⟨W.heap.size, 0, none⟩ = some (.int .i64 8) ∧ V.cell? ⟨W.heap.size, 3, none⟩ = some (.int .i64 (u : Int)) ∧ V.cell? ⟨W.heap.size, 4, none⟩ = some (.int .i64 (v : Int)) ∧ V.cell? ⟨S, 3, none⟩ = W.cell? ⟨S, 3, none⟩ ∧ V.cell? ⟨gR, u, none⟩ = W.cell? ⟨gR, u, none⟩ ∧ V.cell? ⟨gA, n, none⟩ = W.cell? ⟨gA, n, none⟩ ∧ V.cell? ⟨gR, v, none⟩ = W.cell? ⟨gR, v, none⟩ ∧ V.cell? ⟨gB, n, none⟩ = W.cell? ⟨gB, n, none⟩ ∧ Go.RowKit.Below W.heap.size W V) ⟨by simp, by simp, by simp, hb0.cell (World.block_lt_of_cell? _ _ k3), hb0.cell (World.block_lt_of_cell? _ _ kA), hb0.cell (World.block_lt_of_cell? _ _ kA1), hb0.cell (World.block_lt_of_cell? _ _ kB), hb0.cell (World.block_lt_of_cell? _ _ kB1), hb0⟩ ?_
   clear hb0
   rintro w0 ⟨z0, z3, z4, q3, qA, qA1, qB, qB1, hb0⟩
   replace q3 := q3.trans k3
   replace qA := qA.trans kA
   replace qA1 := qA1.trans kA1
   replace qB := qB.trans kB
   replace qB1 := qB1.trans kB1
   have HB0 := Aside0.mk hb0
   clear hb0 k3 kA kA1 kB kB1
   go_wp2
   go_quiet (fail)
   go_wp2
   go_ret
   exact ⟨by first | rfl | simp, pw_below_drewN HB0.out _⟩)
 ·have hres : rowOf (evP t b) rows x n = ((rows.getD v (fun _ => false) n) || ((rowOf (evP t b) rows x (n - 1)) && (rows.getD u (fun _ => false) n))) := by rw [hr n, hr (n - 1)]; exact (since_at _ _ n).2 (by omega)
  have d0 : decide (0 < (n : Int)) = true := by simp; omega
  have d1 : ((n : Int) == 0) = false := by simp; omega
  have d1n : (n == 0) = false := by simp; omega
  have d0n : 0 < n := by omega
  have kw : IntKind.i64.wrap ((n : Int) - 1) = (n : Int) - 1 := kwrap (by omega) (by omega)
  have n1z : (0 : Int) ≤ (n : Int) - 1 := by omega
  have n1y : (n : Int) - 1 < (N : Int) := by omega
  have tn1 : ((n : Int) - 1).toNat = n - 1 := by omega
  have kc := HCur.out (n - 1) (by omega)
  rw [hres]
  clear hres hr cA cB h hA2 hB2 hn HCur
  generalize rows.getD u (fun _ => false) n = a1 at kA1 ⊢
  generalize rows.getD v (fun _ => false) n = b1 at kB1 ⊢
  generalize rowOf (evP t b) rows x (n - 1) = ah at kc ⊢
  rw [hk, hu2, hv2] at hb0 ⊢
  clear hk hu2 hv2
  cases b1 <;> cases ah
  all_goals (
   go_enter Tryz.func67, Tryz.ntmps67
   go_upto_region 1 with fail
   refine wp_world (fun V => V.cell? ⟨W.heap.size, 0, none⟩ = some (.int .i64 8) ∧ V.cell? ⟨W.heap.size, 3, none⟩ = some (.int .i64 (u : Int)) ∧ V.cell? ⟨W.heap.size, 4, none⟩ = some (.int .i64 (v : Int)) ∧ V.cell? ⟨S, 3, none⟩ = W.cell? ⟨S, 3, none⟩ ∧ V.cell? ⟨gR, u, none⟩ = W.cell? ⟨gR, u, none⟩ ∧ V.cell? ⟨gA, n, none⟩ = W.cell? ⟨gA, n, none⟩ ∧ V.cell? ⟨gR, v, none⟩ = W.cell? ⟨gR, v, none⟩ ∧ V.cell? ⟨gB, n, none⟩ = W.cell? ⟨gB, n, none⟩ ∧ V.cell? ⟨gw, n - 1, none⟩ = W.cell? ⟨gw, n - 1, none⟩ ∧ Go.RowKit.Below W.heap.size W V) ⟨by simp, by simp, by simp, hb0.cell (World.block_lt_of_cell? _ _ k3), hb0.cell (World.block_lt_of_cell? _ _ kA), hb0.cell (World.block_lt_of_cell? _ _ kA1), hb0.cell (World.block_lt_of_cell? _ _ kB), hb0.cell (World.block_lt_of_cell? _ _ kB1), hb0.cell (World.block_lt_of_cell? _ _ kc), hb0⟩ ?_
   clear hb0
   rintro w0 ⟨z0, z3, z4, q3, qA, qA1, qB, qB1, qc, hb0⟩
   replace q3 := q3.trans k3
   replace qA := qA.trans kA
   replace qA1 := qA1.trans kA1
   replace qB := qB.trans kB
   replace qB1 := qB1.trans kB1
   replace qc := qc.trans kc
   have HB0 := Aside0.mk hb0
   clear hb0 k3 kA kA1 kB kB1 kc
   go_wp2
   go_quiet (fail)
   go_wp2
   go_ret
   exact ⟨by first | rfl | simp, pw_below_drewN HB0.out _⟩)
end Go.Proofs.YtghommaokdhjmaaGreat.Sat
