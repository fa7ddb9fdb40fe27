/- A part of the proof: walks of the code and plain laws, printed and by hand; no condition. -/
import Derived.Test.YtghommaokdhjmaaGreatSZC1
set_option linter.unusedVariables false
set_option linter.unusedSimpArgs false
/- sat.see: its walk: the rows of a formula's nodes, one by one. -/
namespace Go.Proofs.YtghommaokdhjmaaGreat.Sat
open Go.RowKit Go.Lib Go.Sort Go.Proofs.SymP Go.Proofs.YtghommaokdhjmaaGreatW.PrintWords P FactC IRow Frm SpecM SpecB PSat CmpF BothB
theorem holds_calls {W : World} {S gR gw m rc N n : Nat} {T B A : Option Addr} {tn tc bn bc c : Nat} {t : List S58} {b : List S66} {rows : List (Nat → Bool)} {x : S62} (h : HIn W S gR gw m rc N n T B A tn tc bn bc c t b rows x) :
  Calls Tryz.prog 67 #[.pointer (some ⟨S, 0, none⟩), .agg #[.int .i64 x.f0, .string x.f1.f0, .slice A x.f1.f1.length c, .int .i64 x.f2, .int .i64 x.f3], .slice (some ⟨gw, 0, none⟩) N N, .int .i64 (n : Int)] W fun e w' => e = .returned (.bool (rowOf (evP t b) rows x n)) ∧ Go.RowKit.Below W.heap.size W w' := by
 have hk : x.f0 = 1 ∨ x.f0 = 2 ∨ x.f0 = 3 ∨ x.f0 = 4 ∨ x.f0 = 5 ∨ x.f0 = 6 ∨ x.f0 = 7 ∨ x.f0 = 8 := by have := h.hin.2.2; omega
 rcases hk with hk | hk | hk | hk | hk | hk | hk | hk
 ·exact holds_is h hk
 ·exact holds_k2 h hk
 ·exact holds_k3 h hk
 ·exact holds_k4 h hk
 ·exact holds_k5 h hk
 ·exact holds_k6 h hk
 ·exact holds_k7 h hk
 ·exact holds_k8 h hk
/-! ### The rows of slices of bools -/
theorem infoBs : (Tryz.prog.info? 104).map (fun i => (i.zero, i.size, i.bytes)) = some (some (.slice none 0 0), 1, 24) := by kernel_rfl
theorem infoBl : (Tryz.prog.info? 4).map (fun i => (i.zero, i.size, i.bytes)) = some (some (.bool false), 1, 1) := by kernel_rfl
def VRow (W : World) (b : Nat) (v : Value) (inner : List Value) : Prop := W.ownsRow b 104 1 v inner.length inner
theorem appendV {W : World} (b : Nat) (u : Value) (xs : List Value) (m : Nat) (hm : xs.length = m) (x : Value) (hx1 : x.oneCell' = true) (ad : Addr) (h : VRow W b u xs) (hx : W.cell? ad = some x) (hb : b ≤ W.heap.size) (hl : m ≤ 1000000) :
  ∃ A' c' w', (∀ ty, (Builtin.append_ #[101, 101] ty #[u, .slice (some ad) 1 1]).run Tryz.prog W = .ok (.slice A' (m + 1) c') w') ∧ VRow w' b (.slice A' (m + 1) c') (xs ++ [x]) ∧ Go.RowKit.Below b W w' ∧ W.grownBy w' u.ownBlock := by
 subst hm
 have hin := infoBs
 rcases hinf : Tryz.prog.info? 104 with _ | i
 ·rw [hinf] at hin; cases hin
 ·rw [hinf] at hin
  simp only [Option.map_some, Option.some.injEq, Prod.mk.injEq] at hin
  obtain ⟨hz, hsz, hby⟩ := hin
  have ht : Tryz.prog.underlying 101 = some (.slice 104) := Tryz.underlying101
  obtain ⟨u', w', hr, ho, hg, _, hat⟩ := run_append_own_at (P := Tryz.prog) W b 101 0 104 i _ 1 24 ht hinf hz hsz hby (by rfl) (by decide) u xs.length xs h ad 1 1 [x] rfl (fun j v hv => by
   rcases j with _ | j
   ·obtain rfl : x = v := by simpa using hv
    rw [Addr.add_zero']; exact hx
   ·simp at hv) (fun v hv => by rw [List.mem_singleton.1 hv]; exact hx1) (by unfold maxLen; omega) (by omega) hb
  obtain ⟨A', c', rfl⟩ := own_slice ho
  refine ⟨A', c', w', fun ty => hr, ?_, (Go.RowKit.Below.refl b W).grown hg hb (fun k hk => (h.lt k hk).1), hg⟩
  unfold VRow
  rw [List.length_append, List.length_singleton]
  exact ho
/-- The nodes' rows: each a block of bools. -/
def RowsH (W : World) (inner : List Value) (N : Nat) (rows : List (Nat → Bool)) : Prop := ∀ z (hz : z < inner.length), ∃ g cs, inner[z] = .slice (some ⟨g, 0, none⟩) N N ∧ W.heap[g]? = some (.cells cs 4 (0, 0)) ∧ ∀ p, p < N → cs[p]? = some (.bool (rows.getD z (fun _ => false) p))
theorem RowsH.move {W W' : World} {inner : List Value} {N : Nat} {rows : List (Nat → Bool)} (h : RowsH W inner N rows) (hm : ∀ (g : Nat) (cs : Array Value), W.heap[g]? = some (.cells cs 4 (0, 0)) → W'.heap[g]? = W.heap[g]?) : RowsH W' inner N rows := fun z hz => by
 obtain ⟨g, cs, h1, h2, h3⟩ := h z hz
 exact ⟨g, cs, h1, (hm g cs h2).trans h2, h3⟩
theorem RowsH.below {W W' : World} {inner : List Value} {N : Nat} {rows : List (Nat → Bool)} (h : RowsH W inner N rows) (hb : Go.RowKit.Below W.heap.size W W') : RowsH W' inner N rows := h.move (fun g cs hg => hb.block g (blk_lt hg))
theorem VRow.below {W W' : World} {b : Nat} {v : Value} {xs : List Value} (h : VRow W b v xs) (hb : Go.RowKit.Below W.heap.size W W') : VRow W' b v xs := own_move h (fun k hk => hb.block k (own_lt h k hk))
/-- What is read of the rows at a place. -/
theorem RowsH.read {W : World} {b N : Nat} {R : Option Addr} {m rc : Nat} {inner : List Value} {rows : List (Nat → Bool)} (h : RowsH W inner N rows) (hv : VRow W b (.slice R m rc) inner) (hm : inner.length = m) : ∃ gR, (0 < m → R = some ⟨gR, 0, none⟩) ∧ RowsB W gR m N rows ∧ m ≤ rc := by
 have hcap : m ≤ rc := by have := own_le hv; omega
 rcases hv.2 with ⟨e, h0⟩ | ⟨g, cap, cur, e, hb, hg, hn, hm2, hs, ht⟩
 ·exact ⟨0, fun hp => by omega, fun z hz => by omega, hcap⟩
 ·injection e with e1 e2 e3
  refine ⟨g, fun _ => e1, fun z hz => ?_, hcap⟩
  obtain ⟨g2, cs, h1, h2, h3⟩ := h z (by omega)
  refine ⟨g2, ?_, fun p hp => by rw [blk_cell h2 p]; exact h3 p hp⟩
  rw [blk_cell hg z, ← Array.getElem?_toList]
  have h4 : (cur.toList.take (inner.length * 1))[z]? = inner[z]? := by rw [ht]
  rw [List.getElem?_take_of_lt (by omega), List.getElem?_eq_getElem (by omega : z < inner.length), h1] at h4
  exact h4
theorem set_blk3 {W : World} {S ty : Nat} {a b c d : Value} (v : Value) (h : W.heap[S]? = some (.cells #[a, b, c, d] ty (0, 0))) : (W.setCell ⟨S, 3, none⟩ v).heap[S]? = some (.cells #[a, b, c, v] ty (0, 0)) := by
 simp [World.setCell, Array.getElem?_modify, h]
theorem own_bools {W : World} {b g N : Nat} {ok : Nat → Prop} {xs : List Bool} (h : Kd.R Kd.bool 4 W b ok (.slice (some ⟨g, 0, none⟩) N N) xs) (hN : xs.length = N) : ∃ cs, W.heap[g]? = some (.cells cs 4 (0, 0)) ∧ ∀ p, (hp : p < N) → cs[p]? = some (.bool (xs[p]'(by omega))) := by
 have ho := Kd.own_of_R h
 rcases ho.2 with ⟨e, h0⟩ | ⟨g', cap, cur, e, hb, hg, hn, hm2, hs, ht⟩
 ·injection e with e1; cases e1
 ·injection e with e1 e2 e3
  injection e1 with e1
  injection e1 with e1
  subst e1
  refine ⟨cur, hg, fun p hp => ?_⟩
  rw [← Array.getElem?_toList]
  have h4 : (cur.toList.take (xs.length * 1))[p]? = (encs Value.bool xs)[p]? := by rw [ht]
  rw [List.getElem?_take_of_lt (by omega)] at h4
  rw [h4]
  unfold encs
  rw [List.getElem?_map, List.getElem?_eq_getElem (by omega)]
  rfl
/-- What holds ahead of a node's round. -/
structure SI (w wr : World) (N j : Nat) (A T B : Option Addr) (n c tn tc bn bc : Nat) (t : List S58) (b : List S66) (l : List S62) (rv : Value) (inner : List Value) : Prop where
 blk : wr.heap[w.heap.size]? = some (.cells #[.slice A n c, .slice T tn tc, .slice B bn bc, rv] 103 (0, 0))
 v : VRow wr w.heap.size rv inner
 len : inner.length = j
 rows : RowsH wr inner N (rowsP (evP t b) (l.take j))
 bel : Go.RowKit.Below w.heap.size w wr
/-- The round's end: the row is put to the others. -/
theorem SI.step {w wr w4 w5 : World} {N j gw : Nat} {A T B : Option Addr} {n c tn tc bn bc : Nat} {t : List S58} {b : List S66} {l : List S62} {rv u : Value} {inner : List Value} {x : S62} (h : SI w wr N j A T B n c tn tc bn bc t b l rv inner)
  (hj : j < l.length) (hx : l[j] = x) (hN : 0 < N) (hb : Go.RowKit.Below wr.heap.size wr w4) (hR : ∃ cs, w4.heap[gw]? = some (.cells cs 4 (0, 0)) ∧ ∀ p, p < N → cs[p]? = some (.bool (rowOf (evP t b) (rowsP (evP t b) (l.take j)) x p)))
  (hv : VRow w5 w.heap.size u (inner ++ [.slice (some ⟨gw, 0, none⟩) N N])) (hb5 : Go.RowKit.Below w.heap.size w4 w5) (hg : w4.grownBy w5 rv.ownBlock) :
  w5.heap[w.heap.size]? = some (.cells #[.slice A n c, .slice T tn tc, .slice B bn bc, rv] 103 (0, 0)) ∧
  SI w (w5.setCell ⟨w.heap.size, 3, none⟩ u) N (j + 1) A T B n c tn tc bn bc t b l u (inner ++ [.slice (some ⟨gw, 0, none⟩) N N]) := by
 have k1 : w4.heap[w.heap.size]? = some (.cells #[.slice A n c, .slice T tn tc, .slice B bn bc, rv] 103 (0, 0)) := (hb.block _ (blk_lt h.blk)).trans h.blk
 have far : ∀ (g : Nat) (cs : Array Value) (ty : Nat), w4.heap[g]? = some (.cells cs ty (0, 0)) → ty ≠ 104 → w5.heap[g]? = w4.heap[g]? := fun g cs ty hgc hne => hg.block g (blk_lt hgc) (fun e => by
  obtain ⟨cells, hc⟩ := own_typed (own_move h.v (fun k hk => hb.block k (own_lt h.v k hk))) g e.symm
  rw [hgc] at hc
  injection hc with hc
  injection hc with _ hc
  exact hne hc)
 have k2 := (far _ _ _ k1 (by decide)).trans k1
 refine ⟨k2, set_blk3 u k2, ?_, by simp [h.len], ?_, ?_⟩
 ·refine own_move hv (fun k hk => Go.RowKit.Below.heap_setCell w5 _ u k (fun e => ?_))
  obtain ⟨cells, hc⟩ := own_typed hv k hk
  rw [show k = w.heap.size from e, k2] at hc
  injection hc with hc
  injection hc with _ hc
  exact absurd hc (by decide)
 ·have st : ∀ (g : Nat) (cs : Array Value), w4.heap[g]? = some (.cells cs 4 (0, 0)) → (w5.setCell ⟨w.heap.size, 3, none⟩ u).heap[g]? = w4.heap[g]? := fun g cs hgc => by
   rw [Go.RowKit.Below.heap_setCell w5 _ u g (fun e => by
    rw [show g = w.heap.size from e, k1] at hgc
    injection hgc with hgc
    injection hgc with _ hgc
    exact absurd hgc (by decide))]
   exact far g cs _ hgc (by decide)
  have h4 := (h.rows.below hb).move st
  rw [List.take_succ_eq_append_getElem hj, hx, rowsP_snoc]
  intro z hz
  rw [List.length_append, List.length_singleton] at hz
  have hlen : (rowsP (evP t b) (l.take j)).length = j := by rw [rowsP_length, List.length_take]; omega
  by_cases hzj : z < inner.length
  ·obtain ⟨g, cs, q1, q2, q3⟩ := h4 z hzj
   refine ⟨g, cs, by rw [List.getElem_append_left hzj]; exact q1, q2, fun p hp => ?_⟩
   rw [q3 p hp, List.getD_eq_getElem?_getD, List.getD_eq_getElem?_getD, List.getElem?_append_left (by have := h.len; omega)]
  ·obtain ⟨cs, q1, q2⟩ := hR
   have hzl : z = inner.length := by omega
   subst hzl
   refine ⟨gw, cs, by simp, (st gw cs q1).trans q1, fun p hp => ?_⟩
   rw [q2 p hp, h.len, List.getD_eq_getElem?_getD, List.getElem?_append_right (by omega), hlen]
   simp
 ·exact below_set ((h.bel.trans (hb.mono h.bel.size)).trans hb5) (Nat.le_refl _)
/-- What holds ahead of a place's round. -/
def BI (w1 wi : World) (N p : Nat) (val : Nat → Bool) : Prop := ∃ xs : List Bool, xs.length = N ∧ Kd.R Kd.bool 4 wi w1.heap.size (fun _ => True) (.slice (some ⟨w1.heap.size, 0, none⟩) N N) xs ∧ (∀ q, q < p → xs[q]? = some (val q)) ∧ Go.RowKit.Below w1.heap.size w1 wi
theorem BI.start (w1 : World) (N : Nat) (val : Nat → Bool) (hN : N ≤ 1000000) : BI w1 (w1.alloc (.cells (madeCells #[.bool false] N) 4)) N 0 val :=
 ⟨List.replicate N false, by simp, by
  have h := own_made_of (enc := Value.bool) (d := false) w1 w1.heap.size 4 N (Nat.le_refl _) (by omega)
  have h2 := Kd.R_of_own (enc := Value.bool) (h1 := fun _ => rfl) (ok := fun _ => True) (by rw [List.length_replicate]; exact h) (fun _ _ => trivial)
  exact h2, fun q hq => by omega, (Go.RowKit.Below.refl _ w1).alloc (Nat.le_refl _) _⟩
theorem BI.cells {w1 wi : World} {N p : Nat} {val : Nat → Bool} (h : BI w1 wi N p val) (hp : p ≤ N) : ∃ cs, wi.heap[w1.heap.size]? = some (.cells cs 4 (0, 0)) ∧ (∀ q, q < p → cs[q]? = some (.bool (val q))) ∧ ∀ q, q < N → ∃ v, wi.cell? ⟨w1.heap.size, q, none⟩ = some v := by
 obtain ⟨xs, h1, h2, h3, _⟩ := h
 obtain ⟨cs, k1, k2⟩ := own_bools h2 h1
 refine ⟨cs, k1, fun q hq => ?_, fun q hq => ⟨_, by rw [blk_cell k1 q]; exact k2 q hq⟩⟩
 rw [k2 q (by omega)]
 have := h3 q hq
 rw [List.getElem?_eq_getElem (by omega)] at this
 rw [Option.some.inj this]
theorem BI.below {w1 wi w' : World} {N p : Nat} {val : Nat → Bool} (h : BI w1 wi N p val) (hb : Go.RowKit.Below wi.heap.size wi w') : BI w1 w' N p val := by
 obtain ⟨xs, h1, h2, h3, h4⟩ := h
 exact ⟨xs, h1, Kd.R_below h2 hb, h3, h4.trans (hb.mono h4.size)⟩
theorem BI.put {w1 wi : World} {N p : Nat} {val : Nat → Bool} (h : BI w1 wi N p val) (hp : p < N) : BI w1 (wi.setCell ⟨w1.heap.size, p, none⟩ (.bool (val p))) N (p + 1) val := by
 obtain ⟨xs, h1, h2, h3, h4⟩ := h
 subst h1
 have h5 := Kd.R_put (enc := Value.bool) (h1 := fun _ => rfl) h2 (p : Int) (val p)
 rw [Int.toNat_natCast] at h5
 refine ⟨xs.set p (val p), by simp, h5.1, fun q hq => ?_, below_set h4 (Nat.le_refl _)⟩
 by_cases hqp : q = p
 ·subst hqp; rw [List.getElem?_set_self hp]
 ·rw [List.getElem?_set_ne (fun e => hqp e.symm)]; exact h3 q (by omega)
theorem SI.hin {w wr w1 wi : World} {N j p : Nat} {T B A2 R : Option Addr} {A : Option Addr} {n c tn tc bn bc rc c2 : Nat} {t : List S58} {b : List S66} {l : List S62} {inner : List Value} {x : S62} (h : SI w wr N j A T B n c tn tc bn bc t b l (.slice R j rc) inner)
  (ht : TRow w T tn tc t) (hbr : BRow w B bn bc b) (hfb : PSpec.fitB b = true) (hft : ∀ y ∈ t, y.f1.length ≤ 1000000) (hx : (fitN x ∧ x.f1.f1.length ≤ 1000) ∧ inN x j) (hA6 : x.f1.f1.length ≤ c2 ∧ Kd.C k92 wr A2 x.f1.f1.length x.f1.f1)
  (hb1 : Go.RowKit.Below wr.heap.size wr w1) (hB : BI w1 wi N p (rowOf (evP t b) (rowsP (evP t b) (l.take j)) x)) (hp : p < N) (hpt : p < tn) (hN : N ≤ 1000000) (hj : j ≤ 100000) :
  ∃ gR, HIn wi w.heap.size gR w1.heap.size j rc N p T B A2 tn tc bn bc c2 t b (rowsP (evP t b) (l.take j)) x := by
 obtain ⟨cs, k1, k2, _⟩ := hB.cells (by omega)
 obtain ⟨xs, _, _, _, hbi⟩ := hB
 have hbw : Go.RowKit.Below wr.heap.size wr wi := hb1.trans (hbi.mono hb1.size)
 have hww : Go.RowKit.Below w.heap.size w wi := h.bel.trans (hbw.mono h.bel.size)
 have blk := (hbw.block _ (blk_lt h.blk)).trans h.blk
 obtain ⟨gR, q1, q2, q3⟩ := (h.rows.below hbw).read (h.v.below hbw) h.len
 exact ⟨gR, {
  h1 := blk_cell blk 1
  h2 := blk_cell blk 2
  h3 := fun hm => by rw [← q1 hm]; exact blk_cell blk 3
  ht := ht.below hww
  hb := hbr.below hww
  hA := Kd.C_below hA6.2 hbw
  hc := hA6.1
  hx := ⟨hx.1.1.1, hx.1.1.2, hx.1.2⟩
  hfb := hfb
  hft := hft
  hp := hpt
  hN := hp
  hN2 := hN
  hm := by omega
  hrc := q3
  hR := q2
  hcur := fun q hq => by rw [blk_cell k1 q]; exact k2 q hq
  hin := hx.2 }⟩
set_option maxHeartbeats 8000000 in
set_option maxRecDepth 1000000 in
theorem see_calls {w : World} {A T B : Option Addr} {n c tn tc bn bc i : Nat} {t : List S58} {b : List S66} {l : List S62} (hl : NRow w A n c l) (ht : TRow w T tn tc t) (hb : BRow w B bn bc b) (hf : fitNs l) (hin : inL l) (hn0 : l ≠ []) (hfb : PSpec.fitB b = true) (hft : ∀ y ∈ t, y.f1.length ≤ 1000000) (hi : i < tn) (htn : tn ≤ 1000000) :
  Calls Tryz.prog 37 #[.slice A n c, .slice T tn tc, .int .i64 (i : Int), .slice B bn bc] w fun e w' => e = .returned (.bool (semP (evP t b) l i)) ∧ Go.RowKit.Below w.heap.size w w' := by
 have hu := Tryz.underlying62
 have hu2 := Tryz.underlying103
 have hn := hl.len
 have hn1 : 1 ≤ n := by have := List.length_pos_iff.2 hn0; omega
 have hn2 : n ≤ 100000 := by have := hf.2; omega
 obtain ⟨ad, hA, _⟩ := hl.C.2.2 (by omega)
 subst hA
 have HL := Aside0.mk hl
 have HT := Aside0.mk ht
 have HBR := Aside0.mk hb
 have HF := Aside0.mk hf
 have HIN := Aside0.mk hin
 have HFB := Aside0.mk (And.intro hfb hft)
 have HN := Aside0.mk hn
 clear hl ht hb hf hin hn0 hfb hft hn
 obtain ⟨N, hNi⟩ : ∃ N, N = i + 1 := ⟨_, rfl⟩
 have hNz : (i : Int) + 1 = (N : Int) := by omega
 have kw : IntKind.i64.wrap ((i : Int) + 1) = (N : Int) := by rw [hNz]; exact kwrap (by omega) (by omega)
 have iz : (0 : Int) ≤ (i : Int) := by omega
 have iN : (i : Int) < (N : Int) := by omega
 have iN2 : i < N := by omega
 have hN1 : 0 < N := by omega
 have hN2 : N ≤ 1000000 := by omega
 have kwN : IntKind.i64.wrap (N : Int) = (N : Int) := kwrap (by omega) (by omega)
 have HNI := Aside0.mk (And.intro hNi hNz)
 clear hNi hNz
 have hmk := print_make_of (P := Tryz.prog) 104 4 (.bool false) 1 Tryz.underlying104 infoBl rfl (by decide) N (by omega)
 generalize hres : semP (evP t b) l i = res
 have HRES := Aside0.mk hres
 clear hres
 go_enter Tryz.func37, Tryz.ntmps37
 go_wp2
 go_loopg [21] n (fun gg s21 wr => ∃ (j : Nat), s21 = .int .i64 j ∧ j ≤ n ∧ n - j ≤ gg ∧ Aside0 (∃ rv inner, SI w wr N j (some ad) T B n c tn tc bn bc t b l rv inner))
 case atStart => exact ⟨0, rfl, Nat.zero_le _, Nat.le_refl _, ⟨.slice none 0 0, [], blk_new w _, own_nil _ _ _ _, rfl, fun z hz => absurd hz (by simp), (Go.RowKit.Below.refl _ w).alloc (Nat.le_refl _) _⟩⟩
 case round =>
  obtain ⟨j, rfl, hj, hg, HI⟩ := hrel
  obtain ⟨rv, inner, hI⟩ := HI.out
  clear HI
  by_cases hlt : j < n
  ·have hltz : (j : Int) < (n : Int) := by omega
   have hj2 : j < l.length := by rw [HN.out]; exact hlt
   obtain ⟨ad', A2, c2, eA, y0, y1, y2, y3, y4, y5, y6⟩ := at_T62 (Kd.C_below HL.out.C hI.bel) (j : Int) (by omega) hltz
   obtain rfl : ad = ad' := Option.some.inj eA
   rw [rd62_get hj2] at y0 y1 y2 y3 y4 y5 y6
   have HX := Aside0.mk (And.intro (HF.out.1 l[j] (List.getElem_mem hj2)) (HIN.out j hj2))
   obtain ⟨x, hx⟩ : ∃ x, x = l[j] := ⟨_, rfl⟩
   rw [← hx] at y0 y1 y2 y3 y4 y5 y6 HX
   have HXE := Aside0.mk hx.symm
   clear hx
   rw [show ((j : Int)).toNat * 5 = j * 5 by omega] at y0 y1 y2 y3 y4
   have hW : Go.RowKit.Below wr.heap.size wr (wr.alloc (.cells #[.int .i64 x.f0, .string x.f1.f0, .slice A2 x.f1.f1.length c2, .int .i64 x.f2, .int .i64 x.f3] 62)) := (Go.RowKit.Below.refl _ wr).alloc (Nat.le_refl _) _
   obtain ⟨R, rc, hrv⟩ := own_slice hI.v
   rw [hI.len] at hrv
   subst hrv
   have HI := Aside0.mk hI
   clear hI
   go_upto_region 5 with fail
   refine wp_world (fun V => V.cell? ⟨wr.heap.size, 0, none⟩ = some (.int .i64 x.f0) ∧ V.cell? ⟨wr.heap.size, 1, none⟩ = some (.string x.f1.f0) ∧ V.cell? ⟨wr.heap.size, 2, none⟩ = some (.slice A2 x.f1.f1.length c2) ∧ V.cell? ⟨wr.heap.size, 3, none⟩ = some (.int .i64 x.f2) ∧ V.cell? ⟨wr.heap.size, 4, none⟩ = some (.int .i64 x.f3) ∧ Go.RowKit.Below wr.heap.size wr V) ⟨by simp, by simp, by simp, by simp, by simp, hW⟩ ?_
   clear hW y0 y1 y2 y3 y4
   rintro w1 ⟨z0, z1, z2, z3, z4, hb1⟩
   have HB1 := Aside0.mk hb1
   clear hb1
   have HA6 := Aside0.mk (And.intro y5 y6)
   clear y5 y6
   obtain ⟨val, hval⟩ : ∃ val, val = rowOf (evP t b) (rowsP (evP t b) (l.take j)) x := ⟨_, rfl⟩
   have HVal := Aside0.mk hval
   clear hval
   go_wp2
   go_loopg [30] N (fun gg s30 wi => ∃ (p : Nat), s30 = .int .i64 p ∧ p ≤ N ∧ N - p ≤ gg ∧ Aside0 (BI w1 wi N p val))
   case atStart => exact ⟨0, rfl, Nat.zero_le _, Nat.le_refl _, ⟨BI.start w1 N val hN2⟩⟩
   case round =>
    obtain ⟨p, rfl, hp, hgp, HBI⟩ := hrel
    by_cases hpl : p < N
    ·have hplz : (p : Int) < (N : Int) := by omega
     have hC : Aside0 (Calls Tryz.prog 67 #[.pointer (some ⟨w.heap.size, 0, none⟩), .agg #[.int .i64 x.f0, .string x.f1.f0, .slice A2 x.f1.f1.length c2, .int .i64 x.f2, .int .i64 x.f3], .slice (some ⟨w1.heap.size, 0, none⟩) N N, .int .i64 (p : Int)] wr fun e w' => e = .returned (.bool (val p)) ∧ Go.RowKit.Below wr.heap.size wr w') := ⟨by
      obtain ⟨gR, hH⟩ := HI.out.hin HT.out HBR.out HFB.out.1 HFB.out.2 HX.out HA6.out HB1.out (HVal.out ▸ HBI.out) hpl (by have := HNI.out.1; omega) hN2 (by omega)
      rw [HVal.out]
      exact holds_calls hH⟩
     have hbi : Aside0 (Go.RowKit.Below w1.heap.size w1 wr ∧ Go.RowKit.Below w.heap.size w wr) := ⟨by
      obtain ⟨_, _, _, _, h4⟩ := HBI.out
      exact ⟨h4, ((HI.out.bel.trans (HB1.out.mono HI.out.bel.size)).trans (h4.mono (HI.out.bel.trans (HB1.out.mono HI.out.bel.size)).size))⟩⟩
     replace z0 := (hbi.out.1.cell (World.block_lt_of_cell? _ _ z0)).trans z0
     replace z1 := (hbi.out.1.cell (World.block_lt_of_cell? _ _ z1)).trans z1
     replace z2 := (hbi.out.1.cell (World.block_lt_of_cell? _ _ z2)).trans z2
     replace z3 := (hbi.out.1.cell (World.block_lt_of_cell? _ _ z3)).trans z3
     replace z4 := (hbi.out.1.cell (World.block_lt_of_cell? _ _ z4)).trans z4
     go_wp2_with (go_at_call 67; with_reducible refine hC.out.mono ?_; rintro e w4 ⟨rfl, hb⟩; have HBI4 := Aside0.mk (HBI.out.below hb); obtain ⟨cs4, hcs, _, hcv⟩ := HBI4.out.cells (by omega); obtain ⟨v4, kc4⟩ := hcv p hpl; have fr4 := blk_frozen hcs p; clear hb hcs hcv)
     go_roundg (N - (p + 1))
     case measure => omega
     case rel => exact ⟨p + 1, by go_num, by omega, by omega, ⟨HBI4.out.put hpl⟩⟩
    ·have hplz : ¬ (p : Int) < (N : Int) := by omega
     obtain rfl : N = p := by omega
     obtain ⟨xs, _, _, _, h4⟩ := HBI.out
     have HBo := Aside0.mk (HB1.out.trans (h4.mono HB1.out.size))
     have HBw := Aside0.mk (HI.out.bel.trans (HBo.out.mono HI.out.bel.size))
     have blk := (HBo.out.block _ (blk_lt HI.out.blk)).trans HI.out.blk
     have k3 : wr.cell? ⟨w.heap.size, 3, none⟩ = some (.slice R j rc) := blk_cell blk 3
     have HJ := Aside0.mk hj2
     clear h4 blk
     have HAP : Aside0 (∃ A' c' w5, (∀ ty, (Builtin.append_ #[101, 101] ty #[.slice R j rc, .slice (some ⟨wr.heap.size, 0, none⟩) 1 1]).run Tryz.prog (wr.alloc (.cells #[.slice (some ⟨w1.heap.size, 0, none⟩) N N] 104)) = .ok (.slice A' (j + 1) c') w5) ∧ w5.heap[w.heap.size]? = some (.cells #[.slice (some ad) n c, .slice T tn tc, .slice B bn bc, .slice R j rc] 103 (0, 0)) ∧
       SI w (w5.setCell ⟨w.heap.size, 3, none⟩ (.slice A' (j + 1) c')) N (j + 1) (some ad) T B n c tn tc bn bc t b l (.slice A' (j + 1) c') (inner ++ [.slice (some ⟨w1.heap.size, 0, none⟩) N N])) := ⟨by
      have hal : Go.RowKit.Below wr.heap.size wr (wr.alloc (.cells #[.slice (some ⟨w1.heap.size, 0, none⟩) N N] 104)) := (Go.RowKit.Below.refl _ wr).alloc (Nat.le_refl _) _
      obtain ⟨A', c', w5, happ, hV, hb5, hg5⟩ := appendV (W := wr.alloc (.cells #[.slice (some ⟨w1.heap.size, 0, none⟩) N N] 104)) w.heap.size (.slice R j rc) inner j HI.out.len (.slice (some ⟨w1.heap.size, 0, none⟩) N N) rfl ⟨wr.heap.size, 0, none⟩ ((HI.out.v.below HBo.out).below hal) (by simp) (Nat.le_trans HBw.out.size hal.size) (by omega)
      obtain ⟨cs, q1, q2, _⟩ := HBI.out.cells (Nat.le_refl _)
      have hst := HI.out.step (gw := w1.heap.size) HJ.out HXE.out hN1 (HBo.out.trans (hal.mono HBo.out.size)) ⟨cs, (hal.block _ (blk_lt q1)).trans q1, fun q hq => by rw [← HVal.out]; exact q2 q hq⟩ hV hb5 hg5
      exact ⟨A', c', w5, happ, hst.1, hst.2⟩⟩
     go_wp2_with (first
      | (at_builtin; obtain ⟨A', c', w5, happ, hbl, hst⟩ := HAP.out; have k5 : w5.cell? ⟨w.heap.size, 3, none⟩ = some (.slice R j rc) := blk_cell hbl 3; have f5 := blk_frozen hbl 3; have HST := Aside0.mk hst; refine Lib.wpList_append_run _ (by rfl) (.tmp 46) (.tmp 48) 101 101 (by rfl) (.slice R j rc) (.slice (some ⟨wr.heap.size, 0, none⟩) 1 1) (by rfl) (by rfl) (.slice A' (j + 1) c') w5 (happ 101) ?_; clear hst hbl happ)
      | fail)
     go_roundg (n - (j + 1))
     case measure => omega
     case rel => exact ⟨j + 1, by go_num, by omega, by omega, ⟨_, _, HST.out⟩⟩
  ·have hltz : ¬ (j : Int) < (n : Int) := by omega
   obtain rfl : n = j := by omega
   obtain ⟨R, rc, hrv⟩ := own_slice hI.v
   rw [hI.len] at hrv
   subst hrv
   have kS : wr.cell? ⟨w.heap.size, 3, none⟩ = some (.slice R n rc) := blk_cell hI.blk 3
   obtain ⟨gR, q1, q2, q3⟩ := hI.rows.read hI.v hI.len
   obtain rfl := q1 (by omega)
   obtain ⟨g, g1, g2⟩ := q2 (n - 1) (by omega)
   have g3 := g2 i iN2
   rw [List.take_of_length_le (by rw [HN.out]; exact Nat.le_refl _)] at g3
   have hsem : semP (evP t b) l i = (rowsP (evP t b) l).getD (n - 1) (fun _ => false) i := by
    unfold semP getR
    rw [HN.out, show (((n : Nat) : Int) - 1).toNat = n - 1 by omega]
   rw [← hsem, HRES.out] at g3
   have HBE := Aside0.mk hI.bel
   clear hI q2 g2 hsem
   have n1z : (0 : Int) ≤ (n : Int) - 1 := by omega
   have n1y : (n : Int) - 1 < (n : Int) := by omega
   have tn1 : ((n : Int) - 1).toNat = n - 1 := by omega
   have kw2 : IntKind.i64.wrap ((n : Int) - 1) = (n : Int) - 1 := kwrap (by omega) (by omega)
   go_wp2
   go_ret
   exact ⟨rfl, HBE.out⟩
end Go.Proofs.YtghommaokdhjmaaGreat.Sat
namespace Go.Proofs.YtghommaokdhjmaaGreat.P
open Go.RowKit Go.Proofs.YtghommaokdhjmaaGreatW.PrintWords Go.Proofs.YtghommaokdhjmaaGreatW.PrintLast Gate

/-! ### trace_Check: function 33 -/
def trace_Check.l0 : Nat → List (S58) → Int → Int → Option (Int)
 | 0, _, _, _ => none
 | k + 1, x9, x10, x11 => if x11 < x10 then (if 0 ≤ x11 then (if x11 < (x9.length : Int) then ((fact_Check.f ((rd_T58 x9 x11).f0) ((rd_T58 x9 x11).f1)).bind fun t181 => (if t181 = 0 then (trace_Check.l0 k x9 x10 (wrap64 (x11 + 1))) else (some t181))) else (none)) else (none)) else (some 0)
def trace_Check.f (k : Nat) (l0 : List (S58)) : Option (Int) := if (l0.length : Int) > 200 then (some 2) else (trace_Check.l0 k l0 (l0.length : Int) 0)
theorem trace_Check.mono_l : ∀ k, (∀ y0 y1 y2, LeO (trace_Check.l0 k y0 y1 y2) (trace_Check.l0 (k + 1) y0 y1 y2))
 | 0 => fun _ _ _ r h => by simp [trace_Check.l0] at h
 | k + 1 => by
  have ih0 := trace_Check.mono_l k
  ·intro y0 y1 y2
   unfold trace_Check.l0
   repeat' first
   | (with_reducible exact ih0 _ _ _)
   | (with_reducible exact LeO.refl _)
   | (with_reducible exact LeO.none _)
   | (with_reducible refine LeO.ite ?_ ?_)
   | (with_reducible refine LeO.bind ?_ (fun _ => ?_))
theorem trace_Check.mono : ∀ a0 k, LeO (trace_Check.f k a0) (trace_Check.f (k + 1) a0) := by
 intro a0 k
 have ih0 := trace_Check.mono_l k
 unfold trace_Check.f
 repeat' first
   | (with_reducible exact ih0 _ _ _)
   | (with_reducible exact LeO.refl _)
   | (with_reducible exact LeO.none _)
   | (with_reducible refine LeO.ite ?_ ?_)
   | (with_reducible refine LeO.bind ?_ (fun _ => ?_))
set_option maxHeartbeats 8000000 in
set_option maxRecDepth 100000 in
theorem trace_Check.calls (k : Nat) (A0 : Option Addr) (c0 : Nat) (l0 : List (S58)) (r : Int) (w : World) (hr0 : Kd.C k58 w A0 l0.length l0) (hc0 : l0.length ≤ c0) (h : trace_Check.f k l0 = some r) :
  Calls Tryz.prog 33 #[.slice A0 l0.length c0] w fun e w' => e = .returned (.int .i64 r) ∧ Below w.heap.size w w' := by
 have hu58 := Tryz.underlying58
 have HR0 := Aside0.mk hr0
 have HC0 := Aside0.mk hc0
 clear hr0 hc0
 have HB := Aside0.mk (Below.refl w.heap.size w)
 have H : (if (l0.length : Int) > 200 then (some 2) else (trace_Check.l0 k l0 (l0.length : Int) 0)) = some r := h
 clear h
 by_cases c2 : (l0.length : Int) > 200
 ·rw [if_pos c2] at H
  have c2b0 : decide (200 < (l0.length : Int)) = true := decide_eq_true c2
  have c2b1 : decide (200 < l0.length) = true := decide_eq_true (by omega)
  clear c2
  obtain rfl := Option.some.inj H
  go_enter Tryz.func33, Tryz.ntmps33
  go_wp2
  go_ret
  exact ⟨eW, bB0⟩
 ·rw [if_neg c2] at H
  have c2b0 : decide (200 < (l0.length : Int)) = false := decide_eq_false c2
  have c2b1 : decide (200 < l0.length) = false := decide_eq_false (by omega)
  clear c2
  have H' := Aside0.mk H
  clear H
  go_enter Tryz.func33, Tryz.ntmps33
  go_wp2
  go_loopg [11] k (fun kq v11 w' => ∃ (x11_1 : Int), v11 = .int .i64 x11_1 ∧ Aside0 (trace_Check.l0 kq l0 (l0.length : Int) x11_1 = some r) ∧ Aside0 (kq ≤ k) ∧ Aside0 (Below w.heap.size w w'))
  case atStart => exact ⟨(0), (by first | rfl | (simp; done) | (simp [*]; done)), H', ⟨Nat.le_refl _⟩, ⟨bB0⟩⟩
  case round =>
   clear H'
   (try clear c2); (try clear c2b0); (try clear c2b1); (try clear p2)
   obtain ⟨x11_1, rfl, HA, HK1, HB⟩ := hrel
   cases gk with
   | zero => exact absurd HA.out (by simp [trace_Check.l0])
   | succ k1 =>
    have H := HA.out
    clear HA
    simp only [trace_Check.l0] at H
    by_cases c3 : x11_1 < (l0.length : Int)
    ·rw [if_pos c3] at H
     have c3b0 : decide (x11_1 < (l0.length : Int)) = true := decide_eq_true c3
     clear c3
     by_cases c4 : 0 ≤ x11_1
     ·rw [if_pos c4] at H
      have c4b0 : decide (0 ≤ x11_1) = true := decide_eq_true c4
      clear c4
      by_cases c5 : x11_1 < (l0.length : Int)
      ·rw [if_pos c5] at H
       have c5b0 : decide (x11_1 < (l0.length : Int)) = true := decide_eq_true c5
       clear c5
       replace H := Option.bind_eq_some_iff.mp H
       obtain ⟨t181, A60, H⟩ := H
       replace H : (if t181 = 0 then (trace_Check.l0 k1 l0 (l0.length : Int) (wrap64 (x11_1 + 1))) else (some t181)) = some r := H
       have A6 := Aside0.mk A60
       clear A60
       by_cases c7 : t181 = 0
       ·rw [if_pos c7] at H
        have c7b0 : (t181 == 0) = true := beq_iff_eq.mpr c7
        have c7b1 : (t181 != 0) = false := bne_eq_false_iff_eq.mpr c7
        clear c7
        have H' := Aside0.mk H
        clear H
        have p179 : 0 ≤ (x11_1 : Int) := of_decide_eq_true (by first | (with_reducible assumption) | assumption)
        have q179 : x11_1 < (l0.length : Int) := of_decide_eq_true (by first | (with_reducible assumption) | assumption)
        obtain ⟨ad179, A179_1, c179_1, e179, hx179_0, hx179_1, hl179_1, hi179_1⟩ := at_T58 HR0.out x11_1 p179 q179
        cases e179
        have HZ179_1 := Aside0.mk hx179_1
        replace hx179_0 := (HB.out.cell (World.block_lt_of_cell? w _ hx179_0)).trans hx179_0
        replace hx179_1 := (HB.out.cell (World.block_lt_of_cell? w _ hx179_1)).trans hx179_1
        have HR179_1 := Aside0.mk hi179_1
        have HC179_1 := Aside0.mk hl179_1
        clear hi179_1 hl179_1
        replace p179 := eq_true p179
        replace q179 := eq_true q179
        go_wp2_with (first | ((with_reducible refine gate_dst (N := 4) rfl ?_); refine bE (N := 4) (cs := #[.string (⟨#[]⟩ : ByteArray), .slice none 0 0]) (t := 58) ?_; intro gb180 hg w8 hbox hb; have n0_ := Aside0.mk (below_step bB0 hb); have n1_ := Aside0.mk (hbox); have n2_ := Aside0.mk ((by rw [hg]; exact (below_size bB0) : w.heap.size ≤ gb180)); have n3_ := Aside0.mk ((by rw [hg]; exact (below_size bB0) : w.heap.size ≤ gb180)); clear HB; have HB := n0_; have BK180 := n1_; have GW180 := n2_; have GE180 := n3_; clear n0_ n1_ n2_ n3_; clear hb hbox hg; have hcz9_0 : w8.cell? ⟨gb180, 0, none⟩ = some (.string (⟨#[]⟩ : ByteArray)) := (blk_cell BK180.out 0).trans rfl; have hcz9_1 : w8.cell? ⟨gb180, 1, none⟩ = some (.slice none 0 0) := (blk_cell BK180.out 1).trans rfl; have hfz9_0 := blk_frozen BK180.out 0; have hfz9_1 := blk_frozen BK180.out 1) | ((with_reducible refine gate_callee (f := 59) rfl ?_); refine goesL_ (some 16) rfl rfl Tryz.func59 (by kernel_rfl) rfl #[.agg #[.string ((rd_T58 l0 x11_1).f0), .slice A179_1 ((rd_T58 l0 x11_1).f1).length c179_1]] rfl aG ?_; (with_reducible refine (fact_Check.calls ((rd_T58 l0 x11_1).f0) _ _ ((rd_T58 l0 x11_1).f1) t181 _ ?side1 ?side2 A6.out).mono ?_); (case side1 => exact Kd.C_below HR179_1.out (bB1 GE180.out)); (case side2 => exact HC179_1.out); rintro e w10 ⟨rfl, hb⟩; refine ⟨_, rfl, ?_⟩; have n0_ := Aside0.mk (blk_below (g := gb180) (o := .cells #[.string ((rd_T58 l0 x11_1).f0), .slice A179_1 ((rd_T58 l0 x11_1).f1).length c179_1] 58 (0, 0)) (by refine bk ?_; refine blk_put (cs := #[.string ((rd_T58 l0 x11_1).f0), .slice none 0 0]) ?_ 1 _ rfl; refine bk ?_; refine blk_put (cs := #[.string (⟨#[]⟩ : ByteArray), .slice none 0 0]) ?_ 0 _ rfl; refine bk ?_; exact BK180.out) hb); have n1_ := Aside0.mk (below_step (bB1 GE180.out) hb); clear BK180; clear HB; have BK180 := n0_; have HB := n1_; clear n0_ n1_; (try clear hb); (try clear hb2); (try clear hk); (try clear hi)))
        go_roundg k1
        case measure => have := HK1.out; omega
        case rel => exact ⟨(wrap64 (x11_1 + 1)), (by first | rfl | (simp; done) | (simp [*]; done)), H', ⟨by have := HK1.out; omega⟩, ⟨(bB1 GE180.out)⟩⟩
       ·rw [if_neg c7] at H
        have c7b0 : (t181 == 0) = false := beq_eq_false_iff_ne.mpr c7
        have c7b1 : (t181 != 0) = true := bne_iff_ne.mpr c7
        obtain rfl := Option.some.inj H
        have p179 : 0 ≤ (x11_1 : Int) := of_decide_eq_true (by first | (with_reducible assumption) | assumption)
        have q179 : x11_1 < (l0.length : Int) := of_decide_eq_true (by first | (with_reducible assumption) | assumption)
        obtain ⟨ad179, A179_1, c179_1, e179, hx179_0, hx179_1, hl179_1, hi179_1⟩ := at_T58 HR0.out x11_1 p179 q179
        cases e179
        have HZ179_1 := Aside0.mk hx179_1
        replace hx179_0 := (HB.out.cell (World.block_lt_of_cell? w _ hx179_0)).trans hx179_0
        replace hx179_1 := (HB.out.cell (World.block_lt_of_cell? w _ hx179_1)).trans hx179_1
        have HR179_1 := Aside0.mk hi179_1
        have HC179_1 := Aside0.mk hl179_1
        clear hi179_1 hl179_1
        replace p179 := eq_true p179
        replace q179 := eq_true q179
        go_wp2_with (first | ((with_reducible refine gate_dst (N := 4) rfl ?_); refine bE (N := 4) (cs := #[.string (⟨#[]⟩ : ByteArray), .slice none 0 0]) (t := 58) ?_; intro gb180 hg w11 hbox hb; have n0_ := Aside0.mk (below_step bB0 hb); have n1_ := Aside0.mk (hbox); have n2_ := Aside0.mk ((by rw [hg]; exact (below_size bB0) : w.heap.size ≤ gb180)); have n3_ := Aside0.mk ((by rw [hg]; exact (below_size bB0) : w.heap.size ≤ gb180)); clear HB; have HB := n0_; have BK180 := n1_; have GW180 := n2_; have GE180 := n3_; clear n0_ n1_ n2_ n3_; clear hb hbox hg; have hcz12_0 : w11.cell? ⟨gb180, 0, none⟩ = some (.string (⟨#[]⟩ : ByteArray)) := (blk_cell BK180.out 0).trans rfl; have hcz12_1 : w11.cell? ⟨gb180, 1, none⟩ = some (.slice none 0 0) := (blk_cell BK180.out 1).trans rfl; have hfz12_0 := blk_frozen BK180.out 0; have hfz12_1 := blk_frozen BK180.out 1) | ((with_reducible refine gate_callee (f := 59) rfl ?_); refine goesL_ (some 16) rfl rfl Tryz.func59 (by kernel_rfl) rfl #[.agg #[.string ((rd_T58 l0 x11_1).f0), .slice A179_1 ((rd_T58 l0 x11_1).f1).length c179_1]] rfl aG ?_; (with_reducible refine (fact_Check.calls ((rd_T58 l0 x11_1).f0) _ _ ((rd_T58 l0 x11_1).f1) t181 _ ?side1 ?side2 A6.out).mono ?_); (case side1 => exact Kd.C_below HR179_1.out (bB1 GE180.out)); (case side2 => exact HC179_1.out); rintro e w13 ⟨rfl, hb⟩; refine ⟨_, rfl, ?_⟩; have n0_ := Aside0.mk (blk_below (g := gb180) (o := .cells #[.string ((rd_T58 l0 x11_1).f0), .slice A179_1 ((rd_T58 l0 x11_1).f1).length c179_1] 58 (0, 0)) (by refine bk ?_; refine blk_put (cs := #[.string ((rd_T58 l0 x11_1).f0), .slice none 0 0]) ?_ 1 _ rfl; refine bk ?_; refine blk_put (cs := #[.string (⟨#[]⟩ : ByteArray), .slice none 0 0]) ?_ 0 _ rfl; refine bk ?_; exact BK180.out) hb); have n1_ := Aside0.mk (below_step (bB1 GE180.out) hb); clear BK180; clear HB; have BK180 := n0_; have HB := n1_; clear n0_ n1_; (try clear hb); (try clear hb2); (try clear hk); (try clear hi)))
        go_ret
        exact ⟨eW, (bB1 GE180.out)⟩
      ·rw [if_neg c5] at H
       exact absurd H (by simp)
     ·rw [if_neg c4] at H
      exact absurd H (by simp)
    ·rw [if_neg c3] at H
     have c3b0 : decide (x11_1 < (l0.length : Int)) = false := decide_eq_false c3
     clear c3
     obtain rfl := Option.some.inj H
     go_wp2
     go_ret
     exact ⟨eW, bB0⟩

end Go.Proofs.YtghommaokdhjmaaGreat.P
/- sat.Holds: its walk, and what it answers as a plain function. -/
namespace Go.Proofs.YtghommaokdhjmaaGreat.Sat
open Go.RowKit Go.Lib Go.Sort Go.Proofs.SymP Go.Proofs.YtghommaokdhjmaaGreatW.PrintWords P FactC IRow Frm SpecM SpecB PSat PSpec CmpF BothB SortStr Str
/-- trace.Check's answer. -/
def trL : List S58 → Int
 | [] => 0
 | f :: l => if factP f.f0 f.f1 = 0 then trL l else factP f.f0 f.f1
def trP (l : List S58) : Int := if 200 < l.length then 2 else trL l
def fitF (y : S58) : Prop := y.f0.size ≤ 1000000 ∧ fitV y.f1 = true ∧ y.f1.length ≤ 1000000
theorem rd58_get {l : List S58} {i : Nat} (hi : i < l.length) : rd_T58 l (i : Int) = l[i] := by
 unfold rd_T58
 rw [Int.toNat_natCast, List.getD_eq_getElem?_getD, List.getElem?_eq_getElem hi]; rfl
theorem trace_loop (l : List S58) (hf : ∀ y ∈ l, fitF y) (hl : l.length ≤ 1000000) : ∀ (m i : Nat), i + m = l.length → Ev (fun k => trace_Check.l0 k l (l.length : Int) i) (trL (l.drop i)) := by
 intro m
 induction m with
 | zero =>
  intro i h
  refine Ev.step (fun k => by rw [trace_Check.l0, if_neg (by omega)]) ?_
  rw [List.drop_eq_nil_of_le (by omega)]
  exact Ev.now _
 | succ m ih =>
  intro i h
  have hi : i < l.length := by omega
  have hy := hf l[i] (List.getElem_mem hi)
  refine Ev.step (fun k => by rw [trace_Check.l0, if_pos (by omega), if_pos (by omega), if_pos (by omega), rd58_get hi, fact_Check.f, if_pos ⟨hy.1, hy.2.1⟩, Option.bind_some, show wrap64 ((i : Int) + 1) = ((i + 1 : Nat) : Int) by unfold wrap64; omega]) ?_
  rw [List.drop_eq_getElem_cons hi, trL]
  by_cases e : factP l[i].f0 l[i].f1 = 0
  ·simp only [if_pos e]; exact ih (i + 1) (by omega)
  ·simp only [if_neg e]; exact Ev.now _
theorem ev_trace {l : List S58} (hf : ∀ y ∈ l, fitF y) (hl : l.length ≤ 1000000) : Ev (fun k => trace_Check.f k l) (trP l) := by
 unfold trace_Check.f trP
 by_cases h : 200 < l.length
 ·rw [if_pos h]; simp only [if_pos (show (l.length : Int) > 200 by omega)]; exact Ev.now _
 ·rw [if_neg h]; simp only [if_neg (show ¬ (l.length : Int) > 200 by omega)]
  exact trace_loop l hf hl l.length 0 (by omega)
def unbP (l : List S62) (b : List S66) : Bool := (varsN l).any fun s => !(getP b s).2.2.2
/-- sat.Holds' error. -/
def holdsE (l : List S62) (t : List S58) (i : Int) (b : List S66) : Int :=
 if chkN l ≠ 0 then chkN l else if trP t ≠ 0 then trP t else if chkP b ≠ 0 then chkP b else if i < 0 ∨ (t.length : Int) ≤ i then 1 else if unbP l b = true then 5 else 0
def holdsV (l : List S62) (t : List S58) (i : Int) (b : List S66) : Bool := if holdsE l t i b = 0 then semP (evP t b) l i.toNat else false
set_option maxHeartbeats 8000000 in
set_option maxRecDepth 1000000 in
theorem Holds_calls {w : World} {A T B : Option Addr} {n c tn tc bn bc : Nat} {i : Int} {t : List S58} {b : List S66} {l : List S62} (hl : NRow w A n c l) (ht : TRow w T tn tc t) (hb : BRow w B bn bc b) (hf : fitNs l) (hfb : fitB b = true) (hft : ∀ y ∈ t, fitF y) (htn : tn ≤ 1000000) (hbn : bn ≤ 1000000) :
  Calls Tryz.prog 14 #[.slice A n c, .slice T tn tc, .int .i64 i, .slice B bn bc] w fun e w' => e = .returned (.tuple #[.bool (holdsV l t i b), .int .i64 (holdsE l t i b)]) ∧ Go.RowKit.Below w.heap.size w w' := by
 have H1 : Aside0 (Calls Tryz.prog 32 #[.slice A n c] w fun e w' => e = .returned (.int .i64 (chkN l)) ∧ Go.RowKit.Below w.heap.size w w') := ⟨check_calls hl hf⟩
 have H2 : Aside0 (∀ W, Go.RowKit.Below w.heap.size w W → Calls Tryz.prog 33 #[.slice T tn tc] W fun e w' => e = .returned (.int .i64 (trP t)) ∧ Go.RowKit.Below W.heap.size W w') := ⟨fun W hW => by
  have h := ht.below hW
  obtain rfl := ht.len
  obtain ⟨k, hk⟩ := (ev_trace hft htn).rounds
  exact trace_Check.calls k T tc t _ W h.C h.cap hk⟩
 have H3 : Aside0 (∀ W, Go.RowKit.Below w.heap.size w W → Calls Tryz.prog 34 #[.slice B bn bc] W fun e w' => e = .returned (.int .i64 (chkP b)) ∧ Go.RowKit.Below W.heap.size W w') := ⟨fun W hW => by
  have h := hb.below hW
  obtain rfl := hb.len
  obtain ⟨k, hk⟩ := (ev_check hfb).rounds
  exact subst_Check.calls k B bc b _ W h.C h.cap hk⟩
 have htl := ht.len
 have HN := Aside0.mk (And.intro hl (And.intro ht hb))
 have HF := Aside0.mk (And.intro hf (And.intro hfb (And.intro hft (And.intro htn hbn))))
 have HK := Aside0.mk (rfl : chkN l = chkN l)
 clear HK hl ht hb hf hfb hft
 by_cases e1 : chkN l = 0
 ·by_cases e2 : trP t = 0
  ·by_cases e3 : chkP b = 0
   ·by_cases hi : i < 0 ∨ (tn : Int) ≤ i
    ·have hE : holdsE l t i b = 1 := by unfold holdsE; rw [if_neg (by simp [e1]), if_neg (by simp [e2]), if_neg (by simp [e3]), if_pos (by rw [htl]; exact hi)]
     have hV : holdsV l t i b = false := by unfold holdsV; rw [hE]; rfl
     rw [hE, hV]
     rw [e1] at H1
     rw [e2] at H2
     rw [e3] at H3
     clear hE hV e1 e2 e3 HN HF htl
     by_cases h0 : i < 0
     ·have d0 : decide (i < 0) = true := decide_eq_true h0
      clear hi
      go_enter Tryz.func14, Tryz.ntmps14
      go_wp2_with (first
       | (go_at_call 32; with_reducible refine H1.out.mono ?_; rintro e w1 ⟨rfl, hb⟩; have HB1 := Aside0.mk hb; clear hb)
       | (go_at_call 33; with_reducible refine (H2.out _ HB1.out).mono ?_; rintro e w2 ⟨rfl, hb⟩; have HB2 := Aside0.mk (HB1.out.trans (hb.mono HB1.out.size)); clear hb)
       | (go_at_call 34; with_reducible refine (H3.out _ HB2.out).mono ?_; rintro e w3 ⟨rfl, hb⟩; have HB3 := Aside0.mk (HB2.out.trans (hb.mono HB2.out.size)); clear hb)
       | fail)
      go_ret2
      exact ⟨rfl, HB3.out⟩
     ·have d0 : decide (i < 0) = false := decide_eq_false h0
      have d1 : decide ((tn : Int) ≤ i) = true := decide_eq_true (by omega)
      clear hi
      go_enter Tryz.func14, Tryz.ntmps14
      go_wp2_with (first
       | (go_at_call 32; with_reducible refine H1.out.mono ?_; rintro e w1 ⟨rfl, hb⟩; have HB1 := Aside0.mk hb; clear hb)
       | (go_at_call 33; with_reducible refine (H2.out _ HB1.out).mono ?_; rintro e w2 ⟨rfl, hb⟩; have HB2 := Aside0.mk (HB1.out.trans (hb.mono HB1.out.size)); clear hb)
       | (go_at_call 34; with_reducible refine (H3.out _ HB2.out).mono ?_; rintro e w3 ⟨rfl, hb⟩; have HB3 := Aside0.mk (HB2.out.trans (hb.mono HB2.out.size)); clear hb)
       | fail)
      go_ret2
      exact ⟨rfl, HB3.out⟩
    ·obtain ⟨p, hp⟩ : ∃ p : Nat, i = (p : Int) := ⟨i.toNat, by omega⟩
     subst hp
     have hpt : p < tn := by omega
     have d0 : decide ((p : Int) < 0) = false := decide_eq_false (by omega)
     have d0' : ¬ (p : Int) < 0 := by omega
     have d1 : decide ((tn : Int) ≤ (p : Int)) = false := decide_eq_false (by omega)
     obtain ⟨hin, hn0, hn40⟩ := chk_inL e1
     have hn1 := List.length_pos_iff.2 hn0
     rw [HN.out.1.len] at hn1 hn40
     have hE : holdsE l t (p : Int) b = if unbP l b = true then 5 else 0 := by unfold holdsE; rw [if_neg (by simp [e1]), if_neg (by simp [e2]), if_neg (by simp [e3]), if_neg (by rw [htl]; exact hi)]
     have hV : holdsV l t (p : Int) b = if unbP l b = true then false else semP (evP t b) l p := by
      unfold holdsV
      rw [hE]
      cases unbP l b <;> rfl
     have H4 : Aside0 (∀ W, Go.RowKit.Below w.heap.size w W → Calls Tryz.prog 35 #[.slice A n c, .int .i64 ((n : Int) - 1)] W fun e w' => (∃ (u : Value) (ts : List (List UInt8)), e = .returned u ∧ (∀ x, x ∈ ts ↔ x ∈ (varsN l).map (·.data.toList)) ∧ ts.length ≤ 1000000 ∧ w'.ownsRow W.heap.size 9 1 u ts.length (ts.map encStr)) ∧ Go.RowKit.Below W.heap.size W w') := ⟨fun W hW => safeVars_calls (HN.out.1.below hW) HF.out.1 e1⟩
     have H5 : Aside0 (∀ W, Go.RowKit.Below w.heap.size w W → Calls Tryz.prog 37 #[.slice A n c, .slice T tn tc, .int .i64 (p : Int), .slice B bn bc] W fun e w' => e = .returned (.bool (semP (evP t b) l p)) ∧ Go.RowKit.Below W.heap.size W w') := ⟨fun W hW => see_calls (HN.out.1.below hW) (HN.out.2.1.below hW) (HN.out.2.2.below hW) HF.out.1 hin hn0 HF.out.2.1 (fun y hy => (HF.out.2.2.1 y hy).2.2) hpt HF.out.2.2.2.1⟩
     have H6 : Aside0 (∀ W s, Go.RowKit.Below w.heap.size w W → Calls Tryz.prog 36 #[.slice B bn bc, .string s] W fun e w' => e = .returned (.tuple #[.agg #[.int .i64 (getP b s).1, .int .i64 (getP b s).2.1, .string (getP b s).2.2.1], .bool (getP b s).2.2.2]) ∧ Go.RowKit.Below W.heap.size W w') := ⟨fun W s hW => by
      have h := HN.out.2.2.below hW
      have hl := HF.out.2.2.2.2
      obtain rfl := HN.out.2.2.len
      obtain ⟨k, hk⟩ := (ev_get hl s).rounds
      exact subst_Get.calls k B bc b s _ _ _ _ W h.C h.cap hk⟩
     rw [hE, hV]
     rw [e1] at H1
     rw [e2] at H2
     rw [e3] at H3
     generalize semP (evP t b) l p = res at H5 ⊢
     have HU : Aside0 (∀ ts : List (List UInt8), (∀ x, x ∈ ts ↔ x ∈ (varsN l).map (·.data.toList)) → ((∃ x ∈ ts, (getP b ⟨x.toArray⟩).2.2.2 = false) → unbP l b = true) ∧ ((∀ x ∈ ts, (getP b ⟨x.toArray⟩).2.2.2 = true) → unbP l b = false)) := ⟨fun ts hts => by
      constructor
      ·rintro ⟨x, hx, hg⟩
       obtain ⟨s, hs, rfl⟩ := List.mem_map.1 ((hts x).1 hx)
       unfold unbP
       rw [List.any_eq_true]
       exact ⟨s, hs, by simpa using hg⟩
      ·intro h
       unfold unbP
       rw [List.any_eq_false]
       intro s hs
       have := h s.data.toList ((hts _).2 (List.mem_map.2 ⟨s, hs, rfl⟩))
       simpa using this⟩
     generalize unbP l b = ub at HU ⊢
     clear hE hV e1 e2 e3 HN HF htl hin hn0
     have kwn : IntKind.i64.wrap ((n : Int) - 1) = (n : Int) - 1 := kwrap (by omega) (by omega)
     go_enter Tryz.func14, Tryz.ntmps14
     go_wp2_with (first
      | (go_at_call 32; with_reducible refine H1.out.mono ?_; rintro e w1 ⟨rfl, hb⟩; have HB1 := Aside0.mk hb; clear hb)
      | (go_at_call 33; with_reducible refine (H2.out _ HB1.out).mono ?_; rintro e w2 ⟨rfl, hb⟩; have HB2 := Aside0.mk (HB1.out.trans (hb.mono HB1.out.size)); clear hb)
      | (go_at_call 34; with_reducible refine (H3.out _ HB2.out).mono ?_; rintro e w3 ⟨rfl, hb⟩; have HB3 := Aside0.mk (HB2.out.trans (hb.mono HB2.out.size)); clear hb)
      | (go_at_call 35; with_reducible refine (H4.out _ HB3.out).mono ?_; rintro e w4 ⟨⟨u, ts, rfl, hts, htl, ho⟩, hb⟩; obtain ⟨U, uc, rfl⟩ := own_slice ho; have HTS := Aside0.mk hts; have HO := Aside0.mk ho; have HB4 := Aside0.mk (HB3.out.trans (hb.mono HB3.out.size)); clear hb hts ho)
      | fail)
     have HFal := HU.out ts HTS.out
     have HU2 := Aside0.mk HFal
     clear HFal
     obtain ⟨m, hm⟩ : ∃ m, m = ts.length := ⟨_, rfl⟩
     rw [← hm] at HO htl ⊢
     have HM := Aside0.mk hm
     clear hm
     have HB4' := Aside0.mk (And.intro HB3.out.size HB4.out)
     go_loopg [44] m (fun gg s44 wr => ∃ (j : Nat), s44 = .int .i64 j ∧ j ≤ m ∧ m - j ≤ gg ∧ Aside0 ((∀ q (hq : q < ts.length), q < j → (getP b ⟨ts[q].toArray⟩).2.2.2 = true) ∧ Go.RowKit.Below w4.heap.size w4 wr))
     case atStart => exact ⟨0, rfl, Nat.zero_le _, Nat.le_refl _, ⟨fun q _ h => absurd h (by omega), Go.RowKit.Below.refl _ _⟩⟩
     case round =>
      obtain ⟨j, rfl, hj, hg, HI⟩ := hrel
      have HBr := Aside0.mk (HB4.out.trans (HI.out.2.mono HB4.out.size))
      by_cases hlt : j < m
      ·have hltz : (j : Int) < (m : Int) := by omega
       obtain ⟨gU, eU, cU⟩ : ∃ gU, U = some ⟨gU, 0, none⟩ ∧ wr.cell? ⟨gU, j, none⟩ = some (.string ⟨(ts[j]'(by rw [← HM.out]; exact hlt)).toArray⟩) := by
        have ho := own_move HO.out (fun k hk => HI.out.2.block k (own_lt HO.out k hk))
        rcases ho.2 with ⟨e, h0⟩ | ⟨g', cap, cur, e, hbb, hgg, hnn, hm2, hss, htt⟩
        ·omega
        ·injection e with e1 e2 e3
         refine ⟨g', e1, ?_⟩
         rw [blk_cell hgg j, ← Array.getElem?_toList]
         have h4 : (cur.toList.take (m * 1))[j]? = (ts.map encStr)[j]? := by rw [htt]
         rw [List.getElem?_take_of_lt (by omega)] at h4
         rw [h4, List.getElem?_map, List.getElem?_eq_getElem (by rw [← HM.out]; exact hlt)]
         rfl
       subst eU
       have hap := own_le HO.out
       have HJ : Aside0 (ts[j]'(by rw [← HM.out]; exact hlt) ∈ ts) := ⟨List.getElem_mem _⟩
       obtain ⟨x, hx⟩ : ∃ x, x = ts[j]'(by rw [← HM.out]; exact hlt) := ⟨_, rfl⟩
       rw [← hx] at cU HJ
       have HX := Aside0.mk hx
       clear hx
       have hG := Aside0.mk (H6.out wr ⟨x.toArray⟩ HBr.out)
       generalize hfd : (getP b ⟨x.toArray⟩).2.2.2 = fd at hG
       generalize (getP b ⟨x.toArray⟩).1 = ga at hG
       generalize (getP b ⟨x.toArray⟩).2.1 = gb at hG
       generalize (getP b ⟨x.toArray⟩).2.2.1 = gc at hG
       have HFD := Aside0.mk hfd
       clear hfd
       cases fd with
       | true =>
        go_wp2_with (first
         | (go_at_call 36; with_reducible refine hG.out.mono ?_; rintro e w5 ⟨rfl, hb⟩; have HB5 := Aside0.mk (HI.out.2.trans (hb.mono HI.out.2.size)); clear hb)
         | fail)
        go_roundg (m - (j + 1))
        case measure => omega
        case rel => exact ⟨j + 1, by go_num, by omega, by omega, ⟨fun q hq hqj => by
         by_cases hqq : q = j
         ·subst hqq; rw [← HX.out]; exact HFD.out
         ·exact HI.out.1 q hq (by omega), HB5.out.alloc HB5.out.size _⟩⟩
       | false =>
        have hub : ub = true := HU2.out.1 ⟨x, HJ.out, HFD.out⟩
        subst hub
        go_wp2_with (first
         | (go_at_call 36; with_reducible refine hG.out.mono ?_; rintro e w5 ⟨rfl, hb⟩; have HB5 := Aside0.mk (HBr.out.trans (hb.mono HBr.out.size)); clear hb)
         | fail)
        go_ret2
        exact ⟨rfl, HB5.out.alloc HB5.out.size _⟩
      ·have hltz : ¬ (j : Int) < (m : Int) := by omega
       have hub : ub = false := HU2.out.2 (fun x hx => by
        obtain ⟨q, hq, rfl⟩ := List.getElem_of_mem hx
        exact HI.out.1 q hq (by have := HM.out; omega))
       subst hub
       go_wp2_with (first
        | (go_at_call 37; with_reducible refine (H5.out _ HBr.out).mono ?_; rintro e w5 ⟨rfl, hb⟩; have HB5 := Aside0.mk (HBr.out.trans (hb.mono HBr.out.size)); clear hb)
        | fail)
       go_ret2
       exact ⟨rfl, HB5.out⟩
   ·have hE : holdsE l t i b = chkP b := by unfold holdsE; rw [if_neg (by simp [e1]), if_neg (by simp [e2]), if_pos e3]
    have hV : holdsV l t i b = false := by unfold holdsV; rw [hE, if_neg e3]
    rw [hE, hV]
    rw [e1] at H1
    rw [e2] at H2
    have d0 : (chkP b == 0) = false := by simp [e3]
    have d1 : (chkP b != 0) = true := by simp [e3]
    clear hE hV e1 e2 HN HF htl
    generalize chkP b = e0 at *
    go_enter Tryz.func14, Tryz.ntmps14
    go_wp2_with (first
     | (go_at_call 32; with_reducible refine H1.out.mono ?_; rintro e w1 ⟨rfl, hb⟩; have HB1 := Aside0.mk hb; clear hb)
     | (go_at_call 33; with_reducible refine (H2.out _ HB1.out).mono ?_; rintro e w2 ⟨rfl, hb⟩; have HB2 := Aside0.mk (HB1.out.trans (hb.mono HB1.out.size)); clear hb)
     | (go_at_call 34; with_reducible refine (H3.out _ HB2.out).mono ?_; rintro e w3 ⟨rfl, hb⟩; have HB3 := Aside0.mk (HB2.out.trans (hb.mono HB2.out.size)); clear hb)
     | fail)
    go_ret2
    exact ⟨rfl, HB3.out⟩
  ·have hE : holdsE l t i b = trP t := by unfold holdsE; rw [if_neg (by simp [e1]), if_pos e2]
   have hV : holdsV l t i b = false := by unfold holdsV; rw [hE, if_neg e2]
   rw [hE, hV]
   rw [e1] at H1
   have d0 : (trP t == 0) = false := by simp [e2]
   have d1 : (trP t != 0) = true := by simp [e2]
   clear hE hV e1 HN HF htl H3
   generalize trP t = e0 at *
   go_enter Tryz.func14, Tryz.ntmps14
   go_wp2_with (first
    | (go_at_call 32; with_reducible refine H1.out.mono ?_; rintro e w1 ⟨rfl, hb⟩; have HB1 := Aside0.mk hb; clear hb)
    | (go_at_call 33; with_reducible refine (H2.out _ HB1.out).mono ?_; rintro e w2 ⟨rfl, hb⟩; have HB2 := Aside0.mk (HB1.out.trans (hb.mono HB1.out.size)); clear hb)
    | fail)
   go_ret2
   exact ⟨rfl, HB2.out⟩
 ·have hE : holdsE l t i b = chkN l := by unfold holdsE; rw [if_pos e1]
  have hV : holdsV l t i b = false := by unfold holdsV; rw [hE, if_neg e1]
  rw [hE, hV]
  have d0 : (chkN l == 0) = false := by simp [e1]
  have d1 : (chkN l != 0) = true := by simp [e1]
  clear hE hV HN HF htl H2 H3
  generalize chkN l = e0 at *
  go_enter Tryz.func14, Tryz.ntmps14
  go_wp2_with (first
   | (go_at_call 32; with_reducible refine H1.out.mono ?_; rintro e w1 ⟨rfl, hb⟩; have HB1 := Aside0.mk hb; clear hb)
   | fail)
  go_ret2
  exact ⟨rfl, HB1.out⟩
end Go.Proofs.YtghommaokdhjmaaGreat.Sat
/- safe.within: whether all strings of a row are in another one. -/
namespace Go.Proofs.YtghommaokdhjmaaGreat.Sat
open Go.RowKit Go.Lib Go.Sort Go.Proofs.SymP Go.Proofs.YtghommaokdhjmaaGreatW.PrintWords P FactC IRow Frm SpecM SpecB PSat PSpec CmpF BothB SortStr Str
/-- A string is in a row. -/
def inS (vs : List ByteArray) (s : List UInt8) : Bool := vs.any fun y => decide ((⟨s.toArray⟩ : ByteArray) = y)
/-- A row of strings, read. -/
structure SRd (W : World) (U : Option Addr) (m c : Nat) (ts : List (List UInt8)) : Prop where
 len : ts.length = m
 cap : m ≤ c
 cells : 0 < m → ∃ g, U = some ⟨g, 0, none⟩ ∧ ∀ j (hj : j < ts.length), W.cell? ⟨g, j, none⟩ = some (.string ⟨ts[j].toArray⟩)
theorem SRd.below {W W' : World} {U : Option Addr} {m c : Nat} {ts : List (List UInt8)} (h : SRd W U m c ts) (hb : Go.RowKit.Below W.heap.size W W') : SRd W' U m c ts := ⟨h.len, h.cap, fun hm => by
 obtain ⟨g, e, hc⟩ := h.cells hm
 exact ⟨g, e, fun j hj => (hb.cell (World.block_lt_of_cell? _ _ (hc j hj))).trans (hc j hj)⟩⟩
theorem SRd.of {W : World} {b : Nat} {U : Option Addr} {m c : Nat} {ts : List (List UInt8)} (ho : W.ownsRow b 9 1 (.slice U m c) ts.length (ts.map encStr)) : SRd W U m c ts := by
 have hcap := own_le ho
 rcases ho.2 with ⟨e, h0⟩ | ⟨g', cap, cur, e, hbb, hgg, hnn, hm2, hss, htt⟩
 ·injection e with e1 e2 e3
  exact ⟨by omega, hcap, fun h => absurd h (by omega)⟩
 ·injection e with e1 e2 e3
  refine ⟨e2.symm, hcap, fun _ => ⟨g', e1, fun j hj => ?_⟩⟩
  rw [blk_cell hgg j, ← Array.getElem?_toList]
  have h4 : (cur.toList.take (ts.length * 1))[j]? = (ts.map encStr)[j]? := by rw [htt]
  rw [List.getElem?_take_of_lt (by omega)] at h4
  rw [h4, List.getElem?_map, List.getElem?_eq_getElem hj]
  rfl
set_option maxHeartbeats 4000000 in
set_option maxRecDepth 1000000 in
theorem clos_calls {W : World} {gO c : Nat} {A : Option Addr} {vs : List ByteArray} (s : List UInt8) (h0 : W.cell? ⟨gO, 0, none⟩ = some (.slice A vs.length c)) (hC : Kd.C Kd.string W A vs.length vs) (hc : vs.length ≤ c) (hl : vs.length ≤ 1000000) :
  Calls Tryz.prog 104 #[.string ⟨s.toArray⟩, .pointer (some ⟨gO, 0, none⟩)] W fun e w' => e = .returned (.bool (!inS vs s)) ∧ Go.RowKit.Below W.heap.size W w' := by
 obtain ⟨k, hk⟩ := (ev_contains hl ⟨s.toArray⟩).rounds
 have HC := Aside0.mk (slices_Contains_string_string.calls k A c vs ⟨s.toArray⟩ _ W hC hc hk)
 have hin : inS vs s = vs.any fun y => decide ((⟨s.toArray⟩ : ByteArray) = y) := rfl
 rw [hin]
 generalize (vs.any fun y => decide ((⟨s.toArray⟩ : ByteArray) = y)) = q at *
 clear hk hC hl hin
 go_enter Tryz.func104, Tryz.ntmps104
 go_wp2_with (go_at_call 105; with_reducible refine HC.out.mono ?_; rintro e w1 ⟨rfl, hb⟩; have HB := Aside0.mk hb.below; clear hb)
 go_ret
 exact ⟨rfl, HB.out⟩
set_option maxHeartbeats 4000000 in
set_option maxRecDepth 1000000 in
theorem idx_calls {w : World} {gO c m uc : Nat} {U A : Option Addr} {vs : List ByteArray} {ts : List (List UInt8)} (hU : SRd w U m uc ts) (h0 : w.cell? ⟨gO, 0, none⟩ = some (.slice A vs.length c)) (hC : Kd.C Kd.string w A vs.length vs) (hc : vs.length ≤ c) (hl : vs.length ≤ 1000000) (hm : m ≤ 1000000) :
  Calls Tryz.prog 125 #[.slice U m uc, .func (.func 104) #[] #[.pointer (some ⟨gO, 0, none⟩)]] w fun e w' => (∃ r : Int, e = .returned (.int .i64 r) ∧ decide (0 ≤ r) = !ts.all (inS vs)) ∧ Go.RowKit.Below w.heap.size w w' := by
 have eg : ∀ args w, (callFunc 104 args).run Tryz.prog w = .ok (.enter 104 args) w := enters_of Tryz.func104 (by kernel_rfl) rfl
 have HU := Aside0.mk hU
 have HC : Aside0 (∀ W s, Go.RowKit.Below w.heap.size w W → Calls Tryz.prog 104 #[.string ⟨s.toArray⟩, .pointer (some ⟨gO, 0, none⟩)] W fun e w' => e = .returned (.bool (!inS vs s)) ∧ Go.RowKit.Below W.heap.size W w') := ⟨fun W s hW => clos_calls s ((hW.cell (World.block_lt_of_cell? _ _ h0)).trans h0) (Kd.C_below hC hW) hc hl⟩
 have hcap := hU.cap
 clear hU h0 hC hc hl
 go_enter Tryz.func125, Tryz.ntmps125
 go_wp2
 go_loopg [5, 8] m (fun gg _ s8 wr => ∃ j : Nat, j ≤ m ∧ m - j ≤ gg ∧ s8 = .int .i64 j ∧ Aside0 (Go.RowKit.Below w.heap.size w wr ∧ ∀ q (hq : q < ts.length), q < j → inS vs ts[q] = true))
 case atStart => exact ⟨0, Nat.zero_le _, Nat.le_refl _, rfl, ⟨Go.RowKit.Below.refl _ _, fun q _ h => absurd h (by omega)⟩⟩
 case round =>
  obtain ⟨j, hj, hg, rfl, HI⟩ := hrel
  by_cases hlt : j < m
  ·have hltz : (j : Int) < (m : Int) := by omega
   obtain ⟨gU, eU, cU⟩ := (HU.out.below HI.out.1).cells (by omega)
   subst eU
   have hjl : j < ts.length := by rw [HU.out.len]; exact hlt
   replace cU := cU j hjl
   have HJ := Aside0.mk hjl
   obtain ⟨x, hx⟩ : ∃ x, x = ts[j] := ⟨_, rfl⟩
   rw [← hx] at cU
   have HX := Aside0.mk hx
   clear hx
   have hG := Aside0.mk (HC.out wr x HI.out.1)
   generalize hq : inS vs x = q at hG
   have HQ := Aside0.mk hq
   clear hq
   cases q with
   | true =>
    go_wp2_with (go_at_fn 104; (with_reducible refine hG.out.mono ?_); rintro e w' ⟨rfl, hb⟩; have HB := Aside0.mk (HI.out.1.trans (hb.mono HI.out.1.size)); clear hb)
    go_roundg (m - (j + 1))
    case measure => omega
    case rel => exact ⟨j + 1, by omega, by omega, by go_num, ⟨HB.out, fun q hq hqj => by
     by_cases e : q = j
     ·subst e; rw [← HX.out]; exact HQ.out
     ·exact HI.out.2 q hq (by omega)⟩⟩
   | false =>
    have hall : ts.all (inS vs) = false := by rw [List.all_eq_false]; exact ⟨ts[j], List.getElem_mem _, by rw [← HX.out, HQ.out]; simp⟩
    have HALL := Aside0.mk hall
    clear hall
    go_wp2_with (go_at_fn 104; (with_reducible refine hG.out.mono ?_); rintro e w' ⟨rfl, hb⟩; have HB := Aside0.mk (HI.out.1.trans (hb.mono HI.out.1.size)); clear hb)
    go_ret
    exact ⟨⟨_, rfl, by rw [HALL.out]; simp⟩, HB.out⟩
  ·have hltz : ¬ (j : Int) < (m : Int) := by omega
   have hall : ts.all (inS vs) = true := by
    rw [List.all_eq_true]
    intro x hx
    obtain ⟨q, hq, rfl⟩ := List.getElem_of_mem hx
    exact HI.out.2 q hq (by have := HU.out.len; omega)
   have HALL := Aside0.mk hall
   clear hall
   go_wp2
   go_ret
   exact ⟨⟨_, rfl, by rw [HALL.out]; simp⟩, HI.out.1⟩
set_option maxHeartbeats 4000000 in
set_option maxRecDepth 1000000 in
theorem within_calls {w : World} {c m uc : Nat} {U A : Option Addr} {vs : List ByteArray} {ts : List (List UInt8)} (hU : SRd w U m uc ts) (hC : Kd.C Kd.string w A vs.length vs) (hc : vs.length ≤ c) (hl : vs.length ≤ 1000000) (hm : m ≤ 1000000) :
  Calls Tryz.prog 70 #[.slice U m uc, .slice A vs.length c] w fun e w' => e = .returned (.bool (ts.all (inS vs))) ∧ Go.RowKit.Below w.heap.size w w' := by
 have hW : Go.RowKit.Below w.heap.size w (w.alloc (.cells #[.slice A vs.length c] 70)) := (Go.RowKit.Below.refl _ w).alloc (Nat.le_refl _) _
 have HK : Aside0 (Calls Tryz.prog 103 #[.slice U m uc, .func (.func 104) #[] #[.pointer (some ⟨w.heap.size, 0, none⟩)]] (w.alloc (.cells #[.slice A vs.length c] 70)) fun e w' => e = .returned (.bool (!ts.all (inS vs))) ∧ Go.RowKit.Below (w.alloc (.cells #[.slice A vs.length c] 70)).heap.size (w.alloc (.cells #[.slice A vs.length c] 70)) w') := ⟨by
  have HI := Aside0.mk (idx_calls (w := w.alloc (.cells #[.slice A vs.length c] 70)) (gO := w.heap.size) (hU.below hW) (by simp) (Kd.C_below hC hW) hc hl hm)
  clear hU hC hW
  generalize w.alloc (.cells #[.slice A vs.length c] 70) = W at HI ⊢
  generalize (!ts.all (inS vs)) = q at HI ⊢
  go_enter Tryz.func103, Tryz.ntmps103
  go_wp2_with (go_at_call 125; with_reducible refine HI.out.mono ?_; rintro e w1 ⟨⟨r, rfl, hr⟩, hb⟩; have HB := Aside0.mk hb; clear hb)
  go_ret
  exact ⟨by simp [hr], HB.out⟩⟩
 have HW := Aside0.mk hW
 clear hU hC hW
 generalize hq : ts.all (inS vs) = q at HK ⊢
 clear hq
 go_enter Tryz.func70, Tryz.ntmps70
 go_wp2_with (go_at_call 103; with_reducible refine HK.out.mono ?_; rintro e w1 ⟨rfl, hb⟩; have HB := Aside0.mk (HW.out.trans (hb.mono HW.out.size)); clear hb)
 go_ret
 exact ⟨by simp, HB.out⟩
end Go.Proofs.YtghommaokdhjmaaGreat.Sat
/- safe.Pattern, sat.Wrong of a pattern of one atom that is right and safe: what the statements' witness asks. -/
namespace Go.Proofs.YtghommaokdhjmaaGreat.Sat
open Go.RowKit Go.Lib Go.Sort Go.Proofs.SymP Go.Proofs.YtghommaokdhjmaaGreatW.PrintWords P FactC IRow Frm SpecM SpecB PSat PSpec CmpF BothB SortStr Str
section
variable {w : World} {A L : Option Addr} {c lc : Nat} {l : List S62} {pn an : ByteArray} {ts : List S92}
set_option maxHeartbeats 4000000 in
set_option maxRecDepth 1000000 in
theorem found_calls (hl : NRow w L 1 lc l) (hk : ∀ x ∈ l, x.f0 = 1) : Calls Tryz.prog 101 #[.agg #[.slice L 1 lc], .int .i64 0] w fun e w' => e = .returned (.bool true) ∧ Go.RowKit.Below w.heap.size w w' := by
 have hu := Tryz.underlying62
 have hb0 : Go.RowKit.Below w.heap.size w (w.alloc (.cells #[.slice L 1 lc] 98)) := (Go.RowKit.Below.refl _ w).alloc (Nat.le_refl _) _
 obtain ⟨ad, A2, c2, eA, y0, y1, y2, y3, y4, y5, y6⟩ := at_T62 (hl.below hb0).C 0 (by omega) (by omega)
 subst eA
 have hx : rd_T62 l 0 = l[0]'(by rw [hl.len]; decide) := rd62_get (i := 0) (by rw [hl.len]; decide)
 have hk0 := hk (l[0]'(by rw [hl.len]; decide)) (List.getElem_mem _)
 rw [hx, hk0] at y0
 rw [hx] at y1 y2 y3 y4
 generalize l[0]'(by rw [hl.len]; decide) = x at *
 have hcap := hl.cap
 rw [show ((0 : Int)).toNat * 5 = 0 by rfl] at y0 y1 y2 y3 y4
 simp only [Addr.add_zero'] at y0 y1 y2 y3 y4
 clear hl hk y5 y6 hx hk0
 have HB0 := Aside0.mk hb0
 clear hb0
 go_enter Tryz.func101, Tryz.ntmps101
 go_wp2
 go_ret
 exact ⟨rfl, HB0.out.alloc HB0.out.size _⟩
set_option maxHeartbeats 4000000 in
set_option maxRecDepth 1000000 in
theorem tested_calls (hl : NRow w L 1 lc l) (hk : ∀ x ∈ l, x.f0 = 1) : Calls Tryz.prog 69 #[.agg #[.slice L 1 lc], .int .i64 0] w fun e w' => e = .returned (.bool true) ∧ Go.RowKit.Below w.heap.size w w' := by
 have hu := Tryz.underlying62
 have HF : Aside0 (∀ W, Go.RowKit.Below w.heap.size w W → Calls Tryz.prog 101 #[.agg #[.slice L 1 lc], .int .i64 0] W fun e w' => e = .returned (.bool true) ∧ Go.RowKit.Below W.heap.size W w') := ⟨fun W hW => found_calls (hl.below hW) hk⟩
 have hb0 : Go.RowKit.Below w.heap.size w (w.alloc (.cells #[.slice L 1 lc] 98)) := (Go.RowKit.Below.refl _ w).alloc (Nat.le_refl _) _
 obtain ⟨ad, A2, c2, eA, y0, y1, y2, y3, y4, y5, y6⟩ := at_T62 hl.C 0 (by omega) (by omega)
 subst eA
 have hx : rd_T62 l 0 = l[0]'(by rw [hl.len]; decide) := rd62_get (i := 0) (by rw [hl.len]; decide)
 have hk0 := hk (l[0]'(by rw [hl.len]; decide)) (List.getElem_mem _)
 rw [hx, hk0] at y0
 rw [hx] at y1 y2 y3 y4
 generalize l[0]'(by rw [hl.len]; decide) = x at *
 have hcap := hl.cap
 rw [show ((0 : Int)).toNat * 5 = 0 by rfl] at y0 y1 y2 y3 y4
 simp only [Addr.add_zero'] at y0 y1 y2 y3 y4
 clear hl hk y5 y6 hx hk0
 have HB0 := Aside0.mk hb0
 go_enter Tryz.func69, Tryz.ntmps69
 go_upto_region 1 with fail
 refine wp_world (fun V => V.cell? ⟨w.heap.size, 0, none⟩ = some (.slice (some ad) 1 lc) ∧ V.cell? ad = some (.int .i64 1) ∧ V.cell? ⟨ad.block, ad.off + 1, none⟩ = some (.string x.f1.f0) ∧ V.cell? ⟨ad.block, ad.off + 2, none⟩ = some (.slice A2 x.f1.f1.length c2) ∧ V.cell? ⟨ad.block, ad.off + 3, none⟩ = some (.int .i64 x.f2) ∧ V.cell? ⟨ad.block, ad.off + 4, none⟩ = some (.int .i64 x.f3) ∧ Go.RowKit.Below w.heap.size w V) ⟨by simp, (hb0.cell (World.block_lt_of_cell? _ _ y0)).trans y0, (hb0.cell (World.block_lt_of_cell? _ _ y1)).trans y1, (hb0.cell (World.block_lt_of_cell? _ _ y2)).trans y2, (hb0.cell (World.block_lt_of_cell? _ _ y3)).trans y3, (hb0.cell (World.block_lt_of_cell? _ _ y4)).trans y4, hb0⟩ ?_
 clear hb0 HB0 y0 y1 y2 y3 y4
 rintro w0 ⟨z0, y0, y1, y2, y3, y4, hb0⟩
 have hb1 : Go.RowKit.Below w0.heap.size w0 (w0.alloc (.cells #[.int .i64 1, .string x.f1.f0, .slice A2 x.f1.f1.length c2, .int .i64 x.f2, .int .i64 x.f3] 62)) := (Go.RowKit.Below.refl _ w0).alloc (Nat.le_refl _) _
 have HB1 := Aside0.mk (hb0.trans (hb1.mono hb0.size))
 go_upto_region 2 with fail
 refine wp_world (fun V => V.cell? ⟨w.heap.size, 0, none⟩ = some (.slice (some ad) 1 lc) ∧ V.cell? ⟨w0.heap.size, 0, none⟩ = some (.int .i64 1) ∧ Go.RowKit.Below w.heap.size w V) ⟨(hb1.cell (World.block_lt_of_cell? _ _ z0)).trans z0, by simp, HB1.out⟩ ?_
 clear hb0 hb1 HB1 y0 y1 y2 y3 y4 z0
 rintro w1 ⟨z0, z1, hb1⟩
 have HB1 := Aside0.mk hb1
 clear hb1
 go_wp2_with (go_at_call 101; with_reducible refine (HF.out _ HB1.out).mono ?_; rintro e w2 ⟨rfl, hb⟩; have HB2 := Aside0.mk (HB1.out.trans (hb.mono HB1.out.size)); clear hb)
 go_ret
 exact ⟨rfl, HB2.out⟩
/-- What is asked of the pattern. -/
structure PatOK (w : World) (A L : Option Addr) (c lc : Nat) (l : List S62) (pn an : ByteArray) (ts : List S92) : Prop where
 hl : NRow w L 1 lc l
 hk : ∀ x ∈ l, x.f0 = 1
 hf : fitNs l
 hc : chkN l = 0
 hA : Kd.C k92 w A ts.length ts
 hcap : ts.length ≤ c
 hx : fitA ⟨an, ts⟩
 hm : matP an ts = 0
 hpn : pn.size ≤ 1000000
 hn : nameP pn = true
 hin : ∀ s ∈ varsN l, s ∈ SpecM.varsL [] ts
theorem PatOK.below {W : World} (h : PatOK w A L c lc l pn an ts) (hb : Go.RowKit.Below w.heap.size w W) : PatOK W A L c lc l pn an ts := ⟨h.hl.below hb, h.hk, h.hf, h.hc, Kd.C_below h.hA hb, h.hcap, h.hx, h.hm, h.hpn, h.hn, h.hin⟩
set_option maxHeartbeats 4000000 in
set_option maxRecDepth 1000000 in
theorem right_calls (h : PatOK w A L c lc l pn an ts) : Calls Tryz.prog 68 #[.agg #[.string pn, .string an, .slice A ts.length c, .slice L 1 lc]] w fun e w' => e = .returned (.bool true) ∧ Go.RowKit.Below w.heap.size w w' := by
 have hu := Tryz.underlying27
 have H1 : Aside0 (∀ W, Go.RowKit.Below w.heap.size w W → Calls Tryz.prog 86 #[.string pn] W fun e w' => e = .returned (.bool true) ∧ Go.RowKit.Below W.heap.size W w') := ⟨fun W hW => by
  obtain ⟨k, hk⟩ := (ev_name pn h.hpn).rounds
  rw [h.hn] at hk
  exact (fact_Name.calls k pn true W hk).mono fun e w' hh => hh⟩
 have H2 : Aside0 (∀ W, Go.RowKit.Below w.heap.size w W → Calls Tryz.prog 58 #[.agg #[.string an, .slice A ts.length c]] W fun e w' => e = .returned (.int .i64 0) ∧ Go.RowKit.Below W.heap.size W w') := ⟨fun W hW => match_Check.calls an A c ts _ W (Kd.C_below h.hA hW) h.hcap (by unfold match_Check.f; rw [if_pos ⟨h.hx.1, h.hx.2.1⟩, h.hm])⟩
 have H3 : Aside0 (∀ W, Go.RowKit.Below w.heap.size w W → Calls Tryz.prog 32 #[.slice L 1 lc] W fun e w' => e = .returned (.int .i64 0) ∧ Go.RowKit.Below W.heap.size W w') := ⟨fun W hW => h.hc ▸ check_calls (h.hl.below hW) h.hf⟩
 clear h
 have hb0 : Go.RowKit.Below w.heap.size w (w.alloc (.cells #[.string pn, .string an, .slice A ts.length c, .slice L 1 lc] 27)) := (Go.RowKit.Below.refl _ w).alloc (Nat.le_refl _) _
 go_enter Tryz.func68, Tryz.ntmps68
 go_upto_region 1 with fail
 refine wp_world (fun V => V.cell? ⟨w.heap.size, 0, none⟩ = some (.string pn) ∧ V.cell? ⟨w.heap.size, 1, none⟩ = some (.string an) ∧ V.cell? ⟨w.heap.size, 2, none⟩ = some (.slice A ts.length c) ∧ V.cell? ⟨w.heap.size, 3, none⟩ = some (.slice L 1 lc) ∧ Go.RowKit.Below w.heap.size w V) ⟨by simp, by simp, by simp, by simp, hb0⟩ ?_
 clear hb0
 rintro w0 ⟨z0, z1, z2, z3, hb0⟩
 have HB0 := Aside0.mk hb0
 clear hb0
 go_wp2_with (first
  | (go_at_call 86; with_reducible refine (H1.out _ HB0.out).mono ?_; rintro e w1 ⟨rfl, hb⟩; have HB1 := Aside0.mk (HB0.out.trans (hb.mono HB0.out.size)); replace z1 := (hb.cell (World.block_lt_of_cell? _ _ z1)).trans z1; replace z2 := (hb.cell (World.block_lt_of_cell? _ _ z2)).trans z2; replace z3 := (hb.cell (World.block_lt_of_cell? _ _ z3)).trans z3; clear hb)
  | (go_at_call 58; with_reducible refine (H2.out _ HB1.out).mono ?_; rintro e w2 ⟨rfl, hb⟩; have HB2 := Aside0.mk (HB1.out.trans (hb.mono HB1.out.size)); replace z3 := (hb.cell (World.block_lt_of_cell? _ _ z3)).trans z3; clear hb)
  | (go_at_call 32; with_reducible refine (H3.out _ HB2.out).mono ?_; rintro e w3 ⟨rfl, hb⟩; have HB3 := Aside0.mk (HB2.out.trans (hb.mono HB2.out.size)); clear hb)
  | fail)
 go_ret
 exact ⟨rfl, HB3.out⟩
set_option maxHeartbeats 4000000 in
set_option maxRecDepth 1000000 in
theorem pattern_calls (h : PatOK w A L c lc l pn an ts) : Calls Tryz.prog 38 #[.agg #[.string pn, .string an, .slice A ts.length c, .slice L 1 lc]] w fun e w' => e = .returned (.int .i64 0) ∧ Go.RowKit.Below w.heap.size w w' := by
 have hu := Tryz.underlying27
 have H1 : Aside0 (∀ W, Go.RowKit.Below w.heap.size w W → Calls Tryz.prog 68 #[.agg #[.string pn, .string an, .slice A ts.length c, .slice L 1 lc]] W fun e w' => e = .returned (.bool true) ∧ Go.RowKit.Below W.heap.size W w') := ⟨fun W hW => right_calls (h.below hW)⟩
 have H2 : Aside0 (∀ W, Go.RowKit.Below w.heap.size w W → Calls Tryz.prog 69 #[.agg #[.slice L 1 lc], .int .i64 0] W fun e w' => e = .returned (.bool true) ∧ Go.RowKit.Below W.heap.size W w') := ⟨fun W hW => tested_calls (h.hl.below hW) h.hk⟩
 have H3 : Aside0 (∀ W, Go.RowKit.Below w.heap.size w W → Calls Tryz.prog 66 #[.agg #[.slice L 1 lc], .int .i64 0] W fun e w' => (∃ U m uc us, e = .returned (.slice U m uc) ∧ SRd w' U m uc us ∧ m ≤ 1000000 ∧ us.all (inS (SpecM.varsL [] ts)) = true) ∧ Go.RowKit.Below W.heap.size W w') := ⟨fun W hW => by
  have hv := vars_calls (h.hl.below hW) h.hf h.hc
  rw [show ((1 : Nat) : Int) - 1 = 0 by rfl] at hv
  refine hv.mono ?_
  rintro e w' ⟨⟨u, us, rfl, hm, hl2, ho⟩, hb⟩
  obtain ⟨U, uc, rfl⟩ := own_slice ho
  refine ⟨⟨U, us.length, uc, us, rfl, SRd.of ho, hl2, ?_⟩, hb⟩
  rw [List.all_eq_true]
  intro x hx
  obtain ⟨s, hs, rfl⟩ := List.mem_map.1 ((hm x).1 hx)
  unfold inS
  rw [List.any_eq_true]
  exact ⟨s, h.hin s hs, by simp⟩⟩
 have hlen : (SpecM.varsL [] ts).length ≤ 1000000 := by have := varsL_len ts []; have := h.hx.2.2; simp at *; omega
 have H4 : Aside0 (∀ W, Go.RowKit.Below w.heap.size w W → Calls Tryz.prog 71 #[.agg #[.string an, .slice A ts.length c]] W fun e w' => ∃ V2 vc, e = .returned (.slice V2 (SpecM.varsL [] ts).length vc) ∧ (SpecM.varsL [] ts).length ≤ vc ∧ Kd.C Kd.string w' V2 (SpecM.varsL [] ts).length (SpecM.varsL [] ts) ∧ Go.RowKit.Below W.heap.size W w') := ⟨fun W hW => by
  obtain ⟨k, hk⟩ := (SpecM.ev_vars an (ts := ts) (by have := h.hx.2.2; show ts.length ≤ _; simp at this; omega)).rounds
  refine (match_Vars.calls k an A c ts _ W (Kd.C_below h.hA hW) h.hcap hk).mono ?_
  rintro e w' ⟨v, rfl, hR, hb⟩
  obtain ⟨V2, vc, rfl, q1, q2⟩ := Kd.R_reads hR
  exact ⟨V2, vc, rfl, q1, q2, hb⟩⟩
 have hlc := h.hl.cap
 clear h
 generalize SpecM.varsL [] ts = vs at *
 have HLen := Aside0.mk hlen
 clear hlen
 have hb0 : Go.RowKit.Below w.heap.size w (w.alloc (.cells #[.string pn, .string an, .slice A ts.length c, .slice L 1 lc] 27)) := (Go.RowKit.Below.refl _ w).alloc (Nat.le_refl _) _
 have kw0 : IntKind.i64.wrap 0 = 0 := kwrap (by omega) (by omega)
 go_enter Tryz.func38, Tryz.ntmps38
 go_upto_region 1 with fail
 refine wp_world (fun V => V.cell? ⟨w.heap.size, 0, none⟩ = some (.string pn) ∧ V.cell? ⟨w.heap.size, 1, none⟩ = some (.string an) ∧ V.cell? ⟨w.heap.size, 2, none⟩ = some (.slice A ts.length c) ∧ V.cell? ⟨w.heap.size, 3, none⟩ = some (.slice L 1 lc) ∧ Go.RowKit.Below w.heap.size w V) ⟨by simp, by simp, by simp, by simp, hb0⟩ ?_
 clear hb0
 rintro w0 ⟨z0, z1, z2, z3, hb0⟩
 have HB0 := Aside0.mk hb0
 clear hb0
 go_wp2_with (first
  | (go_at_call 68; with_reducible refine (H1.out _ HB0.out).mono ?_; rintro e w1 ⟨rfl, hb⟩; have HB1 := Aside0.mk (HB0.out.trans (hb.mono HB0.out.size)); replace z1 := (hb.cell (World.block_lt_of_cell? _ _ z1)).trans z1; replace z2 := (hb.cell (World.block_lt_of_cell? _ _ z2)).trans z2; replace z3 := (hb.cell (World.block_lt_of_cell? _ _ z3)).trans z3; clear hb)
  | fail)
 clear z0
 go_region_held3 (fun w' => w'.cell? ⟨w.heap.size, 3, none⟩ = some (.slice L 1 lc)) (first | assumption | (apply cell_al; assumption) | go_keep) (fail)
 all_goals go_wp2
 have hd1 : Go.RowKit.Below w1.heap.size w1 w1.drew := below_drew1 (Go.RowKit.Below.refl _ _)
 have hb2 : Go.RowKit.Below w1.heap.size w1 (w1.drew.alloc (.cells #[.slice L 1 lc] 98)) := hd1.alloc hd1.size _
 refine wp_world (fun V => V.cell? ⟨w1.heap.size, 0, none⟩ = some (.slice L 1 lc) ∧ V.cell? ⟨w.heap.size, 1, none⟩ = some (.string an) ∧ V.cell? ⟨w.heap.size, 2, none⟩ = some (.slice A ts.length c) ∧ Go.RowKit.Below w.heap.size w V) ⟨by simp, (hb2.cell (World.block_lt_of_cell? _ _ z1)).trans z1, (hb2.cell (World.block_lt_of_cell? _ _ z2)).trans z2, HB1.out.trans (hb2.mono HB1.out.size)⟩ ?_
 clear hd1 hb2 z1 z2 z3
 generalize w1.heap.size = gk
 rintro w3 ⟨k0, z1, z2, hb3⟩
 have HB3 := Aside0.mk hb3
 clear hb3
 have hd3 : Go.RowKit.Below w3.heap.size w3 w3.drew := below_drew1 (Go.RowKit.Below.refl _ _)
 have H2' : Aside0 (Calls Tryz.prog 69 #[.agg #[.slice L 1 lc], .int .i64 0] w3.drew fun e w' => e = .returned (.bool true) ∧ Go.RowKit.Below w3.heap.size w3 w') := ⟨(H2.out w3.drew (HB3.out.trans (hd3.mono HB3.out.size))).mono fun e w' hh => ⟨hh.1, hd3.trans hh.2⟩⟩
 go_region_held3 (fun w' => w'.cell? ⟨gk, 0, none⟩ = some (.slice L 1 lc) ∧ w'.cell? ⟨w.heap.size, 1, none⟩ = some (.string an) ∧ w'.cell? ⟨w.heap.size, 2, none⟩ = some (.slice A ts.length c))
  (first | (refine ⟨?_, ?_, ?_⟩ <;> assumption) | go_keep)
  (first
   | (go_at_call 69; (with_reducible refine H2'.out.mono ?_); rintro e w4 ⟨rfl, hb⟩; have HB4 := Aside0.mk (HB3.out.trans (hb.mono HB3.out.size)); replace k0 := (hb.cell (World.block_lt_of_cell? w3 _ k0)).trans k0; replace z1 := (hb.cell (World.block_lt_of_cell? w3 _ z1)).trans z1; replace z2 := (hb.cell (World.block_lt_of_cell? w3 _ z2)).trans z2; clear hb)
   | (go_at_call 66; (with_reducible refine (H3.out _ HB4.out).mono ?_); rintro e w5 ⟨⟨U, m, uc, us, rfl, hU, hm, hus⟩, hb⟩; have HB5 := Aside0.mk (HB4.out.trans (hb.mono HB4.out.size)); have HU := Aside0.mk (And.intro hU (And.intro hm hus)); replace k0 := (hb.cell (World.block_lt_of_cell? w4 _ k0)).trans k0; replace z1 := (hb.cell (World.block_lt_of_cell? w4 _ z1)).trans z1; replace z2 := (hb.cell (World.block_lt_of_cell? w4 _ z2)).trans z2; clear hb hU hm hus)
   | (go_at_call 71; (with_reducible refine (H4.out _ HB5.out).mono ?_); rintro e w6 ⟨V2, vc, rfl, hv1, hv2, hb⟩; have HB6 := Aside0.mk (HB5.out.trans (hb.mono HB5.out.size)); have HV := Aside0.mk (And.intro hv1 hv2); have HU2 := Aside0.mk (HU.out.1.below hb); replace k0 := (hb.cell (World.block_lt_of_cell? w5 _ k0)).trans k0; replace z1 := (hb.cell (World.block_lt_of_cell? w5 _ z1)).trans z1; replace z2 := (hb.cell (World.block_lt_of_cell? w5 _ z2)).trans z2; clear hb hv1 hv2)
   | (go_at_call 70; (with_reducible refine (within_calls HU2.out HV.out.2 HV.out.1 HLen.out HU.out.2.1).mono ?_); rw [HU.out.2.2]; rintro e w7 ⟨rfl, hb⟩; have HB7 := Aside0.mk (HB6.out.trans (hb.mono HB6.out.size)); replace k0 := (hb.cell (World.block_lt_of_cell? w6 _ k0)).trans k0; replace z1 := (hb.cell (World.block_lt_of_cell? w6 _ z1)).trans z1; replace z2 := (hb.cell (World.block_lt_of_cell? w6 _ z2)).trans z2; clear hb)
   | fail)
 all_goals go_wp2
 all_goals go_ret
 all_goals exact ⟨rfl, HB7.out⟩
set_option maxHeartbeats 8000000 in
set_option maxRecDepth 1000000 in
theorem wrong_calls {T : Option Addr} {tn tc p : Nat} {t : List S58} {bs : List S66} (h : PatOK w A L c lc l pn an ts) (ht : TRow w T tn tc t) (hft : ∀ y ∈ t, fitF y) (htn : tn ≤ 1000000) (htr : trP t = 0) (hp : p < tn)
  (hone : oneP an ts (rd_T58 t (p : Int)).f0 (rd_T58 t (p : Int)).f1 [] = (bs, true)) (hbs : fitB bs = true) (hsem : semP (evP t bs) l p = false) :
  Calls Tryz.prog 15 #[.agg #[.string pn, .string an, .slice A ts.length c, .slice L 1 lc], .slice T tn tc, .int .i64 (p : Int)] w fun e w' => (∃ V vc, e = .returned (.tuple #[.slice V bs.length vc, .bool true, .int .i64 0]) ∧ bs.length ≤ vc ∧ Kd.C k66 w' V bs.length bs) ∧ Go.RowKit.Below w.heap.size w w' := by
 have hu := Tryz.underlying27
 have hu2 := Tryz.underlying58
 have hu3 := Tryz.underlying25
 have H1 : Aside0 (∀ W, Go.RowKit.Below w.heap.size w W → Calls Tryz.prog 38 #[.agg #[.string pn, .string an, .slice A ts.length c, .slice L 1 lc]] W fun e w' => e = .returned (.int .i64 0) ∧ Go.RowKit.Below W.heap.size W w') := ⟨fun W hW => pattern_calls (h.below hW)⟩
 have H2 : Aside0 (∀ W, Go.RowKit.Below w.heap.size w W → Calls Tryz.prog 33 #[.slice T tn tc] W fun e w' => e = .returned (.int .i64 0) ∧ Go.RowKit.Below W.heap.size W w') := ⟨fun W hW => by
  have h := ht.below hW
  obtain rfl := ht.len
  obtain ⟨k, hk⟩ := (ev_trace hft htn).rounds
  rw [htr] at hk
  exact trace_Check.calls k T tc t _ W h.C h.cap hk⟩
 obtain ⟨ad, A1, c1, eT, y0, y1, y2, y3⟩ := at_T58 ht.C (p : Int) (by omega) (by omega)
 have hy : fitF (rd_T58 t (p : Int)) := by
  have hlt : p < t.length := by rw [ht.len]; exact hp
  rw [rd58_get hlt]
  exact hft _ (List.getElem_mem hlt)
 generalize rd_T58 t (p : Int) = y at *
 rw [show ((p : Int)).toNat * 2 = p * 2 by omega] at y0 y1
 have H3 : Aside0 (∀ W, Go.RowKit.Below w.heap.size w W → Calls Tryz.prog 28 #[.agg #[.string an, .slice A ts.length c], .agg #[.string y.f0, .slice A1 y.f1.length c1], .slice none 0 0] W fun e w' => ∃ V vc, e = .returned (.tuple #[.slice V bs.length vc, .bool true]) ∧ (bs.length ≤ vc ∧ Kd.C k66 w' V bs.length bs) ∧ Go.RowKit.Below W.heap.size W w') := ⟨fun W hW => by
  have hc := match_One.calls an A c ts y.f0 A1 c1 y.f1 none 0 [] bs true W (Kd.C_below h.hA hW) h.hcap (Kd.C_below y3 hW) y2 ⟨rfl, Nat.zero_le _, fun h => absurd (show 0 < 0 from h) (Nat.lt_irrefl 0)⟩ (Nat.le_refl _) (by unfold match_One.f; rw [if_pos ⟨⟨h.hx.1, h.hx.2.1⟩, ⟨hy.1, hy.2.1⟩, rfl⟩, hone])
  refine hc.mono ?_
  rintro e w' ⟨v, rfl, hR, hb⟩
  obtain ⟨V, vc, rfl, q1, q2⟩ := Kd.R_reads hR
  exact ⟨V, vc, rfl, ⟨q1, q2⟩, hb⟩⟩
 have hci := chk_inL h.hc
 have H4 : Aside0 (∀ W V vc, Go.RowKit.Below w.heap.size w W → bs.length ≤ vc → Kd.C k66 W V bs.length bs → Calls Tryz.prog 37 #[.slice L 1 lc, .slice T tn tc, .int .i64 (p : Int), .slice V bs.length vc] W fun e w' => e = .returned (.bool false) ∧ Go.RowKit.Below W.heap.size W w') := ⟨fun W V vc hW q1 q2 => by
  have := see_calls (h.hl.below hW) (ht.below hW) ⟨rfl, q1, q2⟩ h.hf hci.1 hci.2.1 hbs (fun y hy => (hft y hy).2.2) hp htn
  rwa [hsem] at this⟩
 have htc := ht.cap
 have d0 : decide ((p : Int) < 0) = false := decide_eq_false (by omega)
 have d0' : ¬ (p : Int) < 0 := by omega
 have d1 : decide ((tn : Int) ≤ (p : Int)) = false := decide_eq_false (by omega)
 have hpz : (p : Int) < (tn : Int) := by omega
 subst eT
 clear h ht hft htr hone hbs hsem hy hci y2 y3
 have hb0 : Go.RowKit.Below w.heap.size w (w.alloc (.cells #[.string pn, .string an, .slice A ts.length c, .slice L 1 lc] 27)) := (Go.RowKit.Below.refl _ w).alloc (Nat.le_refl _) _
 go_enter Tryz.func15, Tryz.ntmps15
 go_upto_region 1 with fail
 refine wp_world (fun V => V.cell? ⟨w.heap.size, 0, none⟩ = some (.string pn) ∧ V.cell? ⟨w.heap.size, 1, none⟩ = some (.string an) ∧ V.cell? ⟨w.heap.size, 2, none⟩ = some (.slice A ts.length c) ∧ V.cell? ⟨w.heap.size, 3, none⟩ = some (.slice L 1 lc) ∧ V.cell? (ad.add (p * 2)) = some (.string y.f0) ∧ V.cell? ⟨(ad.add (p * 2)).block, (ad.add (p * 2)).off + 1, none⟩ = some (.slice A1 y.f1.length c1) ∧ Go.RowKit.Below w.heap.size w V) ⟨by simp, by simp, by simp, by simp, (hb0.cell (World.block_lt_of_cell? _ _ y0)).trans y0, (hb0.cell (World.block_lt_of_cell? _ _ y1)).trans y1, hb0⟩ ?_
 clear hb0 y0 y1
 rintro w0 ⟨z0, z1, z2, z3, y0, y1, hb0⟩
 have HB0 := Aside0.mk hb0
 clear hb0
 go_wp2_with (first
  | (go_at_call 38; with_reducible refine (H1.out _ HB0.out).mono ?_; rintro e w1 ⟨rfl, hb⟩; have HB1 := Aside0.mk (HB0.out.trans (hb.mono HB0.out.size)); replace z1 := (hb.cell (World.block_lt_of_cell? _ _ z1)).trans z1; replace z2 := (hb.cell (World.block_lt_of_cell? _ _ z2)).trans z2; replace z3 := (hb.cell (World.block_lt_of_cell? _ _ z3)).trans z3; replace y0 := (hb.cell (World.block_lt_of_cell? _ _ y0)).trans y0; replace y1 := (hb.cell (World.block_lt_of_cell? _ _ y1)).trans y1; clear hb)
  | (go_at_call 33; with_reducible refine (H2.out _ HB1.out).mono ?_; rintro e w2 ⟨rfl, hb⟩; have HB2 := Aside0.mk (HB1.out.trans (hb.mono HB1.out.size)); replace z1 := (hb.cell (World.block_lt_of_cell? _ _ z1)).trans z1; replace z2 := (hb.cell (World.block_lt_of_cell? _ _ z2)).trans z2; replace z3 := (hb.cell (World.block_lt_of_cell? _ _ z3)).trans z3; replace y0 := (hb.cell (World.block_lt_of_cell? _ _ y0)).trans y0; replace y1 := (hb.cell (World.block_lt_of_cell? _ _ y1)).trans y1; clear hb)
  | fail)
 clear z0
 have hd2 : Go.RowKit.Below w2.heap.size w2 w2.drew := below_drew1 (Go.RowKit.Below.refl _ _)
 have H3' : Aside0 (Calls Tryz.prog 28 #[.agg #[.string an, .slice A ts.length c], .agg #[.string y.f0, .slice A1 y.f1.length c1], .slice none 0 0] w2.drew fun e w' => ∃ V vc, e = .returned (.tuple #[.slice V bs.length vc, .bool true]) ∧ (bs.length ≤ vc ∧ Kd.C k66 w' V bs.length bs) ∧ Go.RowKit.Below w2.heap.size w2 w') := ⟨(H3.out w2.drew (HB2.out.trans (hd2.mono HB2.out.size))).mono fun e w' hh => by
  obtain ⟨V, vc, h1, h2, h3⟩ := hh
  exact ⟨V, vc, h1, h2, hd2.trans h3⟩⟩
 clear H3
 go_region_held3 (fun w' => w'.cell? ⟨w.heap.size, 1, none⟩ = some (.string an) ∧ w'.cell? ⟨w.heap.size, 2, none⟩ = some (.slice A ts.length c) ∧ w'.cell? (ad.add (p * 2)) = some (.string y.f0) ∧ w'.cell? ⟨(ad.add (p * 2)).block, (ad.add (p * 2)).off + 1, none⟩ = some (.slice A1 y.f1.length c1))
  (first | (refine ⟨?_, ?_, ?_, ?_⟩ <;> assumption) | go_keep)
  (first
   | (go_at_call 28; (with_reducible refine H3'.out.mono ?_); rintro e w3 ⟨V, vc, rfl, hV, hb⟩; have HB3 := Aside0.mk (HB2.out.trans (hb.mono HB2.out.size)); have HV := Aside0.mk hV; replace z1 := (hb.cell (World.block_lt_of_cell? w2 _ z1)).trans z1; replace z2 := (hb.cell (World.block_lt_of_cell? w2 _ z2)).trans z2; replace z3 := (hb.cell (World.block_lt_of_cell? w2 _ z3)).trans z3; replace y0 := (hb.cell (World.block_lt_of_cell? w2 _ y0)).trans y0; replace y1 := (hb.cell (World.block_lt_of_cell? w2 _ y1)).trans y1; clear hb hV)
   | fail)
 all_goals (
  go_wp2_with (first
   | (go_at_call 37; (with_reducible refine (H4.out _ V vc HB3.out HV.out.1 HV.out.2).mono ?_); rintro e w4 ⟨rfl, hb⟩; have HB4 := Aside0.mk (HB3.out.trans (hb.mono HB3.out.size)); have HV4 := Aside0.mk (Kd.C_below HV.out.2 hb); clear hb)
   | fail)
  go_ret3
  exact ⟨⟨_, _, rfl, HV.out.1, HV4.out⟩, HB4.out⟩)
end
end Go.Proofs.YtghommaokdhjmaaGreat.Sat
namespace Go.Proofs.YtghommaokdhjmaaGreat.P
open Go.RowKit Go.Proofs.YtghommaokdhjmaaGreatW.PrintWords Go.Proofs.YtghommaokdhjmaaGreatW.PrintLast Gate

/-! ### constablekeep_TwinAtom: function 85 -/
def constablekeep_TwinAtom.f (a0_0 : ByteArray) (l0_1 : List (S92)) : Option (ByteArray × (List (S92))) := if ([] : List (S92)).length + l0_1.length < 2932031007402 then (some (a0_0, (([] : List (S92)) ++ l0_1))) else (none)
set_option maxHeartbeats 8000000 in
set_option maxRecDepth 100000 in
theorem constablekeep_TwinAtom.calls (a0_0 : ByteArray) (A0_1 : Option Addr) (c0_1 : Nat) (l0_1 : List (S92)) (r1 : ByteArray) (r2 : List (S92)) (w : World) (hr0_1 : Kd.C k92 w A0_1 l0_1.length l0_1) (hc0_1 : l0_1.length ≤ c0_1) (h : constablekeep_TwinAtom.f a0_0 l0_1 = some (r1, r2)) :
  Calls Tryz.prog 85 #[.agg #[.string a0_0, .slice A0_1 l0_1.length c0_1]] w fun e w' => ∃ v1_ : Value, e = .returned (.agg #[.string r1, v1_]) ∧ Kd.R k92 92 w' w.heap.size (fun _ => True) v1_ r2 ∧ Below w.heap.size w w' := by
 have hu25 := Tryz.underlying25
 have HR0_1 := Aside0.mk hr0_1
 have HC0_1 := Aside0.mk hc0_1
 clear hr0_1 hc0_1
 have HB := Aside0.mk (Below.refl w.heap.size w)
 have H : (if ([] : List (S92)).length + l0_1.length < 2932031007402 then (some (a0_0, (([] : List (S92)) ++ l0_1))) else (none)) = some (r1, r2) := h
 clear h
 by_cases c2 : ([] : List (S92)).length + l0_1.length < 2932031007402
 ·rw [if_pos c2] at H
  have LMc2 := Aside0.mk c2
  clear c2
  obtain ⟨y411, hy411⟩ : ∃ y_ : List (S92), y_ = (([] : List (S92)) ++ l0_1) := ⟨_, rfl⟩
  replace H : (some (a0_0, y411)) = some (r1, r2) := by first | (rw [hy411]; with_reducible exact H) | (have H2_ := (Option.bind_some _ _).symm.trans H; rw [hy411]; with_reducible exact H2_) | (have H2_ := (Option.bind_some _ _).symm.trans H; with_reducible exact H2_) | with_reducible exact H | (rw [hy411]; exact H) | exact H
  have Ny411 := Aside0.mk hy411
  clear hy411
  simp only [Option.some.injEq, Prod.mk.injEq] at H
  obtain ⟨rfl, rfl⟩ := H
  go_enter Tryz.func85, Tryz.ntmps85
  go_wp2_with (first | ((with_reducible refine gate_dst (N := 1) rfl ?_); refine bE (N := 1) (cs := #[.string a0_0, .slice A0_1 l0_1.length c0_1]) (t := 25) ?_; intro gb408 hg w3 hbox hb; have n0_ := Aside0.mk (below_step bB0 hb); have n1_ := Aside0.mk (hbox); have n2_ := Aside0.mk ((by rw [hg]; exact (below_size bB0) : w.heap.size ≤ gb408)); have n3_ := Aside0.mk ((by rw [hg]; exact (below_size bB0) : w.heap.size ≤ gb408)); clear HB; have HB := n0_; have BK408 := n1_; have GW408 := n2_; have GE408 := n3_; clear n0_ n1_ n2_ n3_; clear hb hbox hg) | ((with_reducible refine gate_dst (N := 2) rfl ?_); refine bE (N := 2) (cs := #[.string (⟨#[]⟩ : ByteArray), .slice none 0 0]) (t := 25) ?_; intro gb409 hg w4 hbox hb; have n0_ := Aside0.mk (blk_below (g := gb408) (o := .cells #[.string a0_0, .slice A0_1 l0_1.length c0_1] 25 (0, 0)) (by refine bk ?_; exact BK408.out) hb); have n1_ := Aside0.mk (below_step (bB1 GE408.out) hb); have n2_ := Aside0.mk (hbox); have n3_ := Aside0.mk ((by rw [hg]; exact (below_size (bB1 GE408.out)) : w.heap.size ≤ gb409)); have n4_ := Aside0.mk ((by rw [hg]; exact (below_size (bB1 GE408.out)) : w.heap.size ≤ gb409)); have n5_ := Aside0.mk ((by rw [hg]; exact Nat.ne_of_lt (blk_lt (g := gb408) (o := .cells #[.string a0_0, .slice A0_1 l0_1.length c0_1] 25 (0, 0)) (by refine bk ?_; exact BK408.out)) : gb408 ≠ gb409)); have n6_ := Aside0.mk ((by rw [hg]; exact Nat.ne_of_gt (blk_lt (g := gb408) (o := .cells #[.string a0_0, .slice A0_1 l0_1.length c0_1] 25 (0, 0)) (by refine bk ?_; exact BK408.out)) : gb409 ≠ gb408)); clear BK408; clear HB; have BK408 := n0_; have HB := n1_; have BK409 := n2_; have GW409 := n3_; have GE409 := n4_; have NB408_409 := n5_; have NB409_408 := n6_; clear n0_ n1_ n2_ n3_ n4_ n5_ n6_; clear hb hbox hg; have hnb5 := NB408_409.out; have hnc5 := NB409_408.out; have hcz6_0 : w4.cell? ⟨gb408, 0, none⟩ = some (.string a0_0) := (blk_cell BK408.out 0).trans rfl; have hcz6_1 : w4.cell? ⟨gb408, 1, none⟩ = some (.slice A0_1 l0_1.length c0_1) := (blk_cell BK408.out 1).trans rfl; have hfz6_0 := blk_frozen BK408.out 0; have hfz6_1 := blk_frozen BK408.out 1) | ((with_reducible refine gate_dst (N := 3) rfl ?_); refine bE (N := 3) (cs := #[.string (⟨#[]⟩ : ByteArray), .slice none 0 0]) (t := 25) ?_; intro gb410 hg w7 hbox hb; have n0_ := Aside0.mk (blk_below (g := gb408) (o := .cells #[.string a0_0, .slice A0_1 l0_1.length c0_1] 25 (0, 0)) (by refine bk ?_; exact BK408.out) hb); have n1_ := Aside0.mk (blk_below (g := gb409) (o := .cells #[.string (⟨#[]⟩ : ByteArray), .slice none 0 0] 25 (0, 0)) (by refine bk ?_; exact BK409.out) hb); have n2_ := Aside0.mk (below_step (bB2 GE408.out GE409.out) hb); have n3_ := Aside0.mk (hbox); have n4_ := Aside0.mk ((by rw [hg]; exact (below_size (bB2 GE408.out GE409.out)) : w.heap.size ≤ gb410)); have n5_ := Aside0.mk ((by rw [hg]; exact (below_size (bB2 GE408.out GE409.out)) : w.heap.size ≤ gb410)); have n6_ := Aside0.mk ((by rw [hg]; exact Nat.ne_of_lt (blk_lt (g := gb408) (o := .cells #[.string a0_0, .slice A0_1 l0_1.length c0_1] 25 (0, 0)) (by refine bk ?_; exact BK408.out)) : gb408 ≠ gb410)); have n7_ := Aside0.mk ((by rw [hg]; exact Nat.ne_of_gt (blk_lt (g := gb408) (o := .cells #[.string a0_0, .slice A0_1 l0_1.length c0_1] 25 (0, 0)) (by refine bk ?_; exact BK408.out)) : gb410 ≠ gb408)); have n8_ := Aside0.mk ((by rw [hg]; exact Nat.ne_of_lt (blk_lt (g := gb409) (o := .cells #[.string (⟨#[]⟩ : ByteArray), .slice none 0 0] 25 (0, 0)) (by refine bk ?_; exact BK409.out)) : gb409 ≠ gb410)); have n9_ := Aside0.mk ((by rw [hg]; exact Nat.ne_of_gt (blk_lt (g := gb409) (o := .cells #[.string (⟨#[]⟩ : ByteArray), .slice none 0 0] 25 (0, 0)) (by refine bk ?_; exact BK409.out)) : gb410 ≠ gb409)); clear BK408; clear BK409; clear HB; have BK408 := n0_; have BK409 := n1_; have HB := n2_; have BK410 := n3_; have GW410 := n4_; have GE410 := n5_; have NB408_410 := n6_; have NB410_408 := n7_; have NB409_410 := n8_; have NB410_409 := n9_; clear n0_ n1_ n2_ n3_ n4_ n5_ n6_ n7_ n8_ n9_; clear hb hbox hg; have hnb8 := NB410_408.out; have hnc8 := NB408_410.out; have hnb9 := NB410_409.out; have hnc9 := NB409_410.out; have hcz10_0 : w7.cell? ⟨gb410, 0, none⟩ = some (.string (⟨#[]⟩ : ByteArray)) := (blk_cell BK410.out 0).trans rfl; have hcz10_1 : w7.cell? ⟨gb410, 1, none⟩ = some (.slice none 0 0) := (blk_cell BK410.out 1).trans rfl; have hfz10_0 := blk_frozen BK410.out 0; have hfz10_1 := blk_frozen BK410.out 1; have hcz11_0 : w7.cell? ⟨gb408, 0, none⟩ = some (.string a0_0) := (blk_cell BK408.out 0).trans rfl; have hcz11_1 : w7.cell? ⟨gb408, 1, none⟩ = some (.slice A0_1 l0_1.length c0_1) := (blk_cell BK408.out 1).trans rfl; have hfz11_0 := blk_frozen BK408.out 0; have hfz11_1 := blk_frozen BK408.out 1) | ((with_reducible refine gate_builtin (b := .append) (xs := #[.tmp 8, .tmp 10]) rfl ?_); at_builtin; refine Kd.R_append_rows k92 (w0 := w) w.heap.size rfl (.tmp 8) (.tmp 10) 23 92 (.agg #[(.string ⟨#[]⟩), (.int .i64 0), (.int .i64 0), (.string ⟨#[]⟩)]) 48 rfl Tryz.underlying23 info92 rfl (by decide) (by omega) (.slice none 0 0) ([] : List (S92)) l0_1 _ _ _ (fun _ => True) (fun _ => False) rfl rfl ?aO ?aR (fun _ _ h => h) (fun _ h => h.elim) ?aF ?aB ?aS ?aL ?_; (case aR => exact Kd.C_below HR0_1.out (bB3 GE408.out GE409.out GE410.out)); (case aB => exact (bB3 GE408.out GE409.out GE410.out)); (case aF => exact (fun _ _ => trivial)); (case aO => exact ((Kd.R_nil _ _ _ _ (fun _ => True)))); (case aS => exact (below_size (bB3 GE408.out GE409.out GE410.out))); (case aL => have := LMc2.out; omega); intro v412 w12 ho hb hg hat; rw [← Ny411.out] at ho; have n0_ := Aside0.mk (blk_grown (g := gb408) (o := .cells #[.string a0_0, .slice A0_1 l0_1.length c0_1] 25 (0, 0)) (by refine bk ?_; refine blk_far ?_ NB408_410.out _; refine bk ?_; refine blk_far ?_ NB408_410.out _; refine bk ?_; exact BK408.out) hg (by simp [Value.ownBlock])); have n1_ := Aside0.mk (blk_grown (g := gb409) (o := .cells #[.string (⟨#[]⟩ : ByteArray), .slice none 0 0] 25 (0, 0)) (by refine bk ?_; refine blk_far ?_ NB409_410.out _; refine bk ?_; refine blk_far ?_ NB409_410.out _; refine bk ?_; exact BK409.out) hg (by simp [Value.ownBlock])); have n2_ := Aside0.mk (blk_grown (g := gb410) (o := .cells #[.string a0_0, .slice none 0 0] 25 (0, 0)) (by refine bk ?_; refine blk_put (cs := #[.string a0_0, .slice none 0 0]) ?_ 1 _ rfl; refine bk ?_; refine blk_put (cs := #[.string (⟨#[]⟩ : ByteArray), .slice none 0 0]) ?_ 0 _ rfl; refine bk ?_; exact BK410.out) hg (by simp [Value.ownBlock])); have n3_ := Aside0.mk (hb); have n4_ := Aside0.mk (ho); clear BK408; clear BK409; clear BK410; clear HB; have BK408 := n0_; have BK409 := n1_; have BK410 := n2_; have HB := n3_; have HO413 := n4_; clear n0_ n1_ n2_ n3_ n4_; clear ho hb hg hat; obtain ⟨Ao13, co13, eo13⟩ := Kd.R_slice HO413.out; subst eo13; have hcz14_0 : w12.cell? ⟨gb410, 0, none⟩ = some (.string a0_0) := (blk_cell BK410.out 0).trans rfl; have hcz14_1 : w12.cell? ⟨gb410, 1, none⟩ = some (.slice none 0 0) := (blk_cell BK410.out 1).trans rfl; have hfz14_0 := blk_frozen BK410.out 0; have hfz14_1 := blk_frozen BK410.out 1; have hcz15_0 : w12.cell? ⟨gb409, 0, none⟩ = some (.string (⟨#[]⟩ : ByteArray)) := (blk_cell BK409.out 0).trans rfl; have hcz15_1 : w12.cell? ⟨gb409, 1, none⟩ = some (.slice none 0 0) := (blk_cell BK409.out 1).trans rfl; have hfz15_0 := blk_frozen BK409.out 0; have hfz15_1 := blk_frozen BK409.out 1))
  refine bodyPost_ret (results_cell_row rfl _ _ gb409 25 #[.string a0_0, .slice Ao13 y411.length co13] (0, 0) _ rfl (by refine bk ?_; refine blk_put (cs := #[.string a0_0, .slice none 0 0]) ?_ 1 _ rfl; refine bk ?_; refine blk_put (cs := #[.string (⟨#[]⟩ : ByteArray), .slice none 0 0]) ?_ 0 _ rfl; refine bk ?_; refine blk_far ?_ NB409_410.out _; refine bk ?_; exact BK409.out) Tryz.underlying25 rfl (by kernel_rfl)) rfl ?_
  exact ⟨_, eW, by (with_reducible repeat (first | apply Kd.R_alloc | apply Kd.R_drewN | apply Kd.R_drew)); exact Kd.R_mono (Kd.R_far (p := ⟨gb409, 1, none⟩) (Kd.R_far (p := ⟨gb409, 0, none⟩) (Kd.R_far (p := ⟨gb410, 1, none⟩) (Kd.R_types (Kd.R_types HO413.out BK410.out (by decide)) BK409.out (by decide)) (fun _ hk => hk.1.2) (.slice Ao13 y411.length co13)) (fun _ hk => hk.2) (.string a0_0)) (fun _ hk => hk.2) (.slice Ao13 y411.length co13)) (fun _ hk => trivial), (bB3 GE408.out GE409.out GE410.out)⟩
 ·rw [if_neg c2] at H
  exact absurd H (by simp)

end Go.Proofs.YtghommaokdhjmaaGreat.P
namespace Go.Proofs.YtghommaokdhjmaaGreat.P
open Go.RowKit Go.Proofs.YtghommaokdhjmaaGreatW.PrintWords Go.Proofs.YtghommaokdhjmaaGreatW.PrintLast Gate

/-! ### constablekeep_TwinNodes: function 57 -/
def constablekeep_TwinNodes.l0 : Nat → List (S62) → List (S62) → Int → Option ((List (S62)))
 | 0, _, _, _ => none
 | k + 1, x0, x3, x4 => if x4 < (x0.length : Int) then (if 0 ≤ x4 then ((constablekeep_TwinAtom.f ((rd_T62 x0 x4).f1.f0) ((rd_T62 x0 x4).f1.f1)).bind fun bt416 => (if x3.length < 2199023255552 then (constablekeep_TwinNodes.l0 k x0 (x3 ++ [(⟨(rd_T62 x0 x4).f0, (⟨bt416.1, bt416.2⟩ : S25), (rd_T62 x0 x4).f2, (rd_T62 x0 x4).f3⟩ : S62)]) (wrap64 (x4 + 1))) else (none))) else (none)) else (some x3)
def constablekeep_TwinNodes.f (k : Nat) (l0 : List (S62)) : Option ((List (S62))) := constablekeep_TwinNodes.l0 k l0 ([] : List (S62)) 0
theorem constablekeep_TwinNodes.mono_l : ∀ k, (∀ y0 y1 y2, LeO (constablekeep_TwinNodes.l0 k y0 y1 y2) (constablekeep_TwinNodes.l0 (k + 1) y0 y1 y2))
 | 0 => fun _ _ _ r h => by simp [constablekeep_TwinNodes.l0] at h
 | k + 1 => by
  have ih0 := constablekeep_TwinNodes.mono_l k
  ·intro y0 y1 y2
   unfold constablekeep_TwinNodes.l0
   repeat' first
   | (with_reducible exact ih0 _ _ _)
   | (with_reducible exact LeO.refl _)
   | (with_reducible exact LeO.none _)
   | (with_reducible refine LeO.ite ?_ ?_)
   | (with_reducible refine LeO.bind ?_ (fun _ => ?_))
theorem constablekeep_TwinNodes.mono : ∀ a0 k, LeO (constablekeep_TwinNodes.f k a0) (constablekeep_TwinNodes.f (k + 1) a0) := by
 intro a0 k
 have ih0 := constablekeep_TwinNodes.mono_l k
 unfold constablekeep_TwinNodes.f
 repeat' first
   | (with_reducible exact ih0 _ _ _)
   | (with_reducible exact LeO.refl _)
   | (with_reducible exact LeO.none _)
   | (with_reducible refine LeO.ite ?_ ?_)
   | (with_reducible refine LeO.bind ?_ (fun _ => ?_))
set_option maxHeartbeats 8000000 in
set_option maxRecDepth 100000 in
theorem constablekeep_TwinNodes.calls (k : Nat) (A0 : Option Addr) (c0 : Nat) (l0 : List (S62)) (r : List (S62)) (w : World) (hr0 : Kd.C k62 w A0 l0.length l0) (hc0 : l0.length ≤ c0) (h : constablekeep_TwinNodes.f k l0 = some r) :
  Calls Tryz.prog 57 #[.slice A0 l0.length c0] w fun e w' => ∃ v0_ : Value, e = .returned (v0_) ∧ Kd.S k62 62 w' w.heap.size (fun _ => True) v0_ r ∧ Below w.heap.size w w' := by
 have hu62 := Tryz.underlying62
 have hu25 := Tryz.underlying25
 have HR0 := Aside0.mk hr0
 have HC0 := Aside0.mk hc0
 clear hr0 hc0
 have HB := Aside0.mk (Below.refl w.heap.size w)
 have H : (constablekeep_TwinNodes.l0 k l0 ([] : List (S62)) 0) = some r := h
 clear h
 have H' := Aside0.mk H
 clear H
 go_enter Tryz.func57, Tryz.ntmps57
 go_wp2
 go_loopg [3, 4] k (fun kq v3 v4 w' => ∃ (x3_1 : List (S62)) (x4_1 : Int), v4 = .int .i64 x4_1 ∧ Aside0 (constablekeep_TwinNodes.l0 kq l0 x3_1 x4_1 = some r) ∧ Aside0 (kq ≤ k) ∧ Aside0 (Kd.S k62 62 w' w.heap.size (fun _ => True) v3 x3_1) ∧ Aside0 (Below w.heap.size w w'))
 case atStart => exact ⟨(([] : List (S62))), (0), (by first | rfl | (simp; done) | (simp [*]; done)), H', ⟨Nat.le_refl _⟩, ⟨by first | exact Kd.S_nil _ _ _ _ _ | exact Kd.N_nil _ _ _ _ _ | exact Kd.V_nil _ _ _ _ _ | exact Kd.Q_nil _ _ _ _ _ | exact Kd.R_nil _ _ _ _ _⟩, ⟨bB0⟩⟩
 case round =>
  clear H'
  obtain ⟨x3_1, x4_1, rfl, HA, HK1, HO_3, HB⟩ := hrel
  cases gk with
  | zero => exact absurd HA.out (by simp [constablekeep_TwinNodes.l0])
  | succ k1 =>
   have H := HA.out
   clear HA
   simp only [constablekeep_TwinNodes.l0] at H
   by_cases c2 : x4_1 < (l0.length : Int)
   ·rw [if_pos c2] at H
    have c2b0 : decide (x4_1 < (l0.length : Int)) = true := decide_eq_true c2
    clear c2
    by_cases c3 : 0 ≤ x4_1
    ·rw [if_pos c3] at H
     have c3b0 : decide (0 ≤ x4_1) = true := decide_eq_true c3
     clear c3
     replace H := Option.bind_eq_some_iff.mp H
     obtain ⟨⟨t416, t417⟩, A40, H⟩ := H
     replace H : (if x3_1.length < 2199023255552 then (constablekeep_TwinNodes.l0 k1 l0 (x3_1 ++ [(⟨(rd_T62 l0 x4_1).f0, (⟨t416, t417⟩ : S25), (rd_T62 l0 x4_1).f2, (rd_T62 l0 x4_1).f3⟩ : S62)]) (wrap64 (x4_1 + 1))) else (none)) = some r := H
     have A4 := Aside0.mk A40
     clear A40
     by_cases c5 : x3_1.length < 2199023255552
     ·rw [if_pos c5] at H
      have LMc5 := Aside0.mk c5
      clear c5
      obtain ⟨y420, hy420⟩ : ∃ y_ : List (S62), y_ = (x3_1 ++ [(⟨(rd_T62 l0 x4_1).f0, (⟨t416, t417⟩ : S25), (rd_T62 l0 x4_1).f2, (rd_T62 l0 x4_1).f3⟩ : S62)]) := ⟨_, rfl⟩
      replace H : (constablekeep_TwinNodes.l0 k1 l0 y420 (wrap64 (x4_1 + 1))) = some r := by first | (rw [hy420]; with_reducible exact H) | (have H2_ := (Option.bind_some _ _).symm.trans H; rw [hy420]; with_reducible exact H2_) | (have H2_ := (Option.bind_some _ _).symm.trans H; with_reducible exact H2_) | with_reducible exact H | (rw [hy420]; exact H) | exact H
      have Ny420 := Aside0.mk hy420
      clear hy420
      have H' := Aside0.mk H
      clear H
      have p414 : 0 ≤ (x4_1 : Int) := of_decide_eq_true (by first | (with_reducible assumption) | assumption)
      have q414 : x4_1 < (l0.length : Int) := of_decide_eq_true (by first | (with_reducible assumption) | assumption)
      obtain ⟨ad414, A414_2, c414_2, e414, hx414_0, hx414_1, hx414_2, hx414_3, hx414_4, hl414_2, hi414_2⟩ := at_T62 HR0.out x4_1 p414 q414
      cases e414
      have HZ414_2 := Aside0.mk hx414_2
      replace hx414_0 := (HB.out.cell (World.block_lt_of_cell? w _ hx414_0)).trans hx414_0
      replace hx414_1 := (HB.out.cell (World.block_lt_of_cell? w _ hx414_1)).trans hx414_1
      replace hx414_2 := (HB.out.cell (World.block_lt_of_cell? w _ hx414_2)).trans hx414_2
      replace hx414_3 := (HB.out.cell (World.block_lt_of_cell? w _ hx414_3)).trans hx414_3
      replace hx414_4 := (HB.out.cell (World.block_lt_of_cell? w _ hx414_4)).trans hx414_4
      have HR414_2 := Aside0.mk hi414_2
      have HC414_2 := Aside0.mk hl414_2
      clear hi414_2 hl414_2
      replace p414 := eq_true p414
      replace q414 := eq_true q414
      go_wp2_with (first | ((with_reducible refine gate_dst (N := 5) rfl ?_); refine bE (N := 5) (cs := #[.int .i64 0, .string (⟨#[]⟩ : ByteArray), .slice none 0 0, .int .i64 0, .int .i64 0]) (t := 62) ?_; intro gb415 hg w6 hbox hb; have n0_ := Aside0.mk (Kd.S_below (Kd.S_elderB (by (with_reducible repeat (first | apply Kd.S_alloc | apply Kd.S_drewN | apply Kd.S_drew)); exact HO_3.out) gb415 (Nat.le_of_eq hg.symm)) hb); have n1_ := Aside0.mk (below_step bB0 hb); have n2_ := Aside0.mk (hbox); have n3_ := Aside0.mk ((by rw [hg]; exact (below_size bB0) : w.heap.size ≤ gb415)); have n4_ := Aside0.mk ((by rw [hg]; exact (below_size bB0) : w.heap.size ≤ gb415)); clear HO_3; clear HB; have HO_3 := n0_; have HB := n1_; have BK415 := n2_; have GW415 := n3_; have GE415 := n4_; clear n0_ n1_ n2_ n3_ n4_; clear hb hbox hg; have hcz7_0 : w6.cell? ⟨gb415, 0, none⟩ = some (.int .i64 0) := (blk_cell BK415.out 0).trans rfl; have hcz7_1 : w6.cell? ⟨gb415, 1, none⟩ = some (.string (⟨#[]⟩ : ByteArray)) := (blk_cell BK415.out 1).trans rfl; have hcz7_2 : w6.cell? ⟨gb415, 2, none⟩ = some (.slice none 0 0) := (blk_cell BK415.out 2).trans rfl; have hcz7_3 : w6.cell? ⟨gb415, 3, none⟩ = some (.int .i64 0) := (blk_cell BK415.out 3).trans rfl; have hcz7_4 : w6.cell? ⟨gb415, 4, none⟩ = some (.int .i64 0) := (blk_cell BK415.out 4).trans rfl; have hfz7_0 := blk_frozen BK415.out 0; have hfz7_1 := blk_frozen BK415.out 1; have hfz7_2 := blk_frozen BK415.out 2; have hfz7_3 := blk_frozen BK415.out 3; have hfz7_4 := blk_frozen BK415.out 4) | ((with_reducible refine gate_callee (f := 85) rfl ?_); refine goesL_ (some 18) rfl rfl Tryz.func85 (by kernel_rfl) rfl #[.agg #[.string ((rd_T62 l0 x4_1).f1.f0), .slice A414_2 ((rd_T62 l0 x4_1).f1.f1).length c414_2]] rfl aG ?_; (with_reducible refine (constablekeep_TwinAtom.calls ((rd_T62 l0 x4_1).f1.f0) _ _ ((rd_T62 l0 x4_1).f1.f1) t416 t417 _ ?side1 ?side2 A4.out).mono ?_); (case side1 => exact Kd.C_below HR414_2.out (bB1 GE415.out)); (case side2 => exact HC414_2.out); rintro e w8 ⟨v418, rfl, ho0, hb⟩; refine ⟨_, rfl, ?_⟩; have n0_ := Aside0.mk (Kd.S_elder' (by (with_reducible repeat (first | apply Kd.S_alloc | apply Kd.S_drewN | apply Kd.S_drew)); exact (Kd.S_mono (Kd.S_far (p := ⟨gb415, 4, none⟩) (Kd.S_far (p := ⟨gb415, 3, none⟩) (Kd.S_far (p := ⟨gb415, 2, none⟩) (Kd.S_far (p := ⟨gb415, 1, none⟩) (Kd.S_far (p := ⟨gb415, 0, none⟩) (Kd.S_mono HO_3.out (fun k_ hk => (⟨hk, hk.2⟩ : _ ∧ k_ ≠ gb415))) (fun _ hk => hk.2) (.int .i64 ((rd_T62 l0 x4_1).f0))) (fun _ hk => hk.2) (.string ((rd_T62 l0 x4_1).f1.f0))) (fun _ hk => hk.2) (.slice A414_2 ((rd_T62 l0 x4_1).f1.f1).length c414_2)) (fun _ hk => hk.2) (.int .i64 ((rd_T62 l0 x4_1).f2))) (fun _ hk => hk.2) (.int .i64 ((rd_T62 l0 x4_1).f3))) (fun _ h_ => h_.1))) (Kd.R_base ho0) hb); have n1_ := Aside0.mk (Kd.R_lower ho0 (below_size (bB1 GE415.out))); have n2_ := Aside0.mk (blk_below (g := gb415) (o := .cells #[.int .i64 ((rd_T62 l0 x4_1).f0), .string ((rd_T62 l0 x4_1).f1.f0), .slice A414_2 ((rd_T62 l0 x4_1).f1.f1).length c414_2, .int .i64 ((rd_T62 l0 x4_1).f2), .int .i64 ((rd_T62 l0 x4_1).f3)] 62 (0, 0)) (by refine bk ?_; refine blk_put (cs := #[.int .i64 ((rd_T62 l0 x4_1).f0), .string ((rd_T62 l0 x4_1).f1.f0), .slice A414_2 ((rd_T62 l0 x4_1).f1.f1).length c414_2, .int .i64 ((rd_T62 l0 x4_1).f2), .int .i64 0]) ?_ 4 _ rfl; refine bk ?_; refine blk_put (cs := #[.int .i64 ((rd_T62 l0 x4_1).f0), .string ((rd_T62 l0 x4_1).f1.f0), .slice A414_2 ((rd_T62 l0 x4_1).f1.f1).length c414_2, .int .i64 0, .int .i64 0]) ?_ 3 _ rfl; refine bk ?_; refine blk_put (cs := #[.int .i64 ((rd_T62 l0 x4_1).f0), .string ((rd_T62 l0 x4_1).f1.f0), .slice none 0 0, .int .i64 0, .int .i64 0]) ?_ 2 _ rfl; refine bk ?_; refine blk_put (cs := #[.int .i64 ((rd_T62 l0 x4_1).f0), .string (⟨#[]⟩ : ByteArray), .slice none 0 0, .int .i64 0, .int .i64 0]) ?_ 1 _ rfl; refine bk ?_; refine blk_put (cs := #[.int .i64 0, .string (⟨#[]⟩ : ByteArray), .slice none 0 0, .int .i64 0, .int .i64 0]) ?_ 0 _ rfl; refine bk ?_; exact BK415.out) hb); have n3_ := Aside0.mk (below_step (bB1 GE415.out) hb); clear HO_3; clear BK415; clear HB; have HO_3 := n0_; have HO419 := n1_; have BK415 := n2_; have HB := n3_; clear n0_ n1_ n2_ n3_; (try clear hb); (try clear hb2); (try clear hk); (try clear hi); (try clear ho0); have hcz9_0 : w8.cell? ⟨gb415, 0, none⟩ = some (.int .i64 ((rd_T62 l0 x4_1).f0)) := (blk_cell BK415.out 0).trans rfl; have hcz9_1 : w8.cell? ⟨gb415, 1, none⟩ = some (.string ((rd_T62 l0 x4_1).f1.f0)) := (blk_cell BK415.out 1).trans rfl; have hcz9_2 : w8.cell? ⟨gb415, 2, none⟩ = some (.slice A414_2 ((rd_T62 l0 x4_1).f1.f1).length c414_2) := (blk_cell BK415.out 2).trans rfl; have hcz9_3 : w8.cell? ⟨gb415, 3, none⟩ = some (.int .i64 ((rd_T62 l0 x4_1).f2)) := (blk_cell BK415.out 3).trans rfl; have hcz9_4 : w8.cell? ⟨gb415, 4, none⟩ = some (.int .i64 ((rd_T62 l0 x4_1).f3)) := (blk_cell BK415.out 4).trans rfl; have hfz9_0 := blk_frozen BK415.out 0; have hfz9_1 := blk_frozen BK415.out 1; have hfz9_2 := blk_frozen BK415.out 2; have hfz9_3 := blk_frozen BK415.out 3; have hfz9_4 := blk_frozen BK415.out 4; obtain ⟨Ao10, co10, eo10⟩ := Kd.R_slice HO419.out; subst eo10) | ((with_reducible refine gate_store (t := 25) (p := 19) rfl ?_); refine store_event (t := 25) (p := 19) (v := ?vo_w11) (w1 := ((w8.setCell ⟨gb415, 1, none⟩ (.string t416)).setCell ⟨gb415, 2, none⟩ (.slice Ao10 t417.length co10))) ?hg ?ho ?hn ?hr ?_; (case ho => rfl); (case hg => rfl); (case hn => rfl); (case hr => first | (go_simp; done) | (go_simp; rfl)); intro w11 hw; have n0_ : Aside0 (Kd.S k62 62 w11 w.heap.size (fun k_ => some k_ ≠ (.slice Ao10 t417.length co10 : Value).ownBlock ∧ k_ ≠ gb415) u3 x3_1) := ⟨(by rw [hw]; exact (by (with_reducible repeat (first | apply Kd.S_alloc | apply Kd.S_drewN | apply Kd.S_drew)); exact Kd.S_mono (Kd.S_far (p := ⟨gb415, 2, none⟩) (Kd.S_far (p := ⟨gb415, 1, none⟩) (Kd.S_mono HO_3.out (fun k_ hk => (⟨hk, hk.1.2⟩ : _ ∧ k_ ≠ gb415))) (fun _ hk => hk.2) (.string t416)) (fun _ hk => hk.2) (.slice Ao10 t417.length co10)) (fun _ hk => ⟨hk.1.2, hk.1.1.2⟩)))⟩; have n1_ : Aside0 (Kd.R k92 92 w11 w.heap.size (fun _ => True) (.slice Ao10 t417.length co10) t417) := ⟨(by rw [hw]; exact (sR (Kd.R_mono (Kd.R_far (p := ⟨gb415, 2, none⟩) (Kd.R_far (p := ⟨gb415, 1, none⟩) (Kd.R_types HO419.out BK415.out (by decide)) (fun _ hk => hk.2) (.string t416)) (fun _ hk => hk.2) (.slice Ao10 t417.length co10)) (fun _ hk => trivial))))⟩; have n2_ : Aside0 (w11.heap[gb415]? = some (.cells #[.int .i64 ((rd_T62 l0 x4_1).f0), .string t416, .slice Ao10 t417.length co10, .int .i64 ((rd_T62 l0 x4_1).f2), .int .i64 ((rd_T62 l0 x4_1).f3)] 62 (0, 0))) := ⟨(by rw [hw]; exact (by refine bk ?_; refine blk_put (cs := #[.int .i64 ((rd_T62 l0 x4_1).f0), .string t416, .slice A414_2 ((rd_T62 l0 x4_1).f1.f1).length c414_2, .int .i64 ((rd_T62 l0 x4_1).f2), .int .i64 ((rd_T62 l0 x4_1).f3)]) ?_ 2 _ rfl; refine bk ?_; refine blk_put (cs := #[.int .i64 ((rd_T62 l0 x4_1).f0), .string ((rd_T62 l0 x4_1).f1.f0), .slice A414_2 ((rd_T62 l0 x4_1).f1.f1).length c414_2, .int .i64 ((rd_T62 l0 x4_1).f2), .int .i64 ((rd_T62 l0 x4_1).f3)]) ?_ 1 _ rfl; refine bk ?_; exact BK415.out))⟩; have n3_ : Aside0 (Below w.heap.size w w11) := ⟨(by rw [hw]; exact (bB1 GE415.out))⟩; clear hw; clear HO_3; clear HO419; clear BK415; clear HB; have HO_3 := n0_; have HO419 := n1_; have BK415 := n2_; have HB := n3_; clear n0_ n1_ n2_ n3_; have hcz12_0 : w11.cell? ⟨gb415, 0, none⟩ = some (.int .i64 ((rd_T62 l0 x4_1).f0)) := (blk_cell BK415.out 0).trans rfl; have hcz12_1 : w11.cell? ⟨gb415, 1, none⟩ = some (.string t416) := (blk_cell BK415.out 1).trans rfl; have hcz12_2 : w11.cell? ⟨gb415, 2, none⟩ = some (.slice Ao10 t417.length co10) := (blk_cell BK415.out 2).trans rfl; have hcz12_3 : w11.cell? ⟨gb415, 3, none⟩ = some (.int .i64 ((rd_T62 l0 x4_1).f2)) := (blk_cell BK415.out 3).trans rfl; have hcz12_4 : w11.cell? ⟨gb415, 4, none⟩ = some (.int .i64 ((rd_T62 l0 x4_1).f3)) := (blk_cell BK415.out 4).trans rfl; have hfz12_0 := blk_frozen BK415.out 0; have hfz12_1 := blk_frozen BK415.out 1; have hfz12_2 := blk_frozen BK415.out 2; have hfz12_3 := blk_frozen BK415.out 3; have hfz12_4 := blk_frozen BK415.out 4) | ((with_reducible refine gate_builtin (b := .append) (xs := #[.tmp 20, .tmp 22]) rfl ?_); at_builtin; refine Kd.S_append k62 (w0 := w) w.heap.size rfl (.tmp 20) (.tmp 22) 22 62 (.agg #[(.int .i64 0), (.string ⟨#[]⟩), (.slice none 0 0), (.int .i64 0), (.int .i64 0)]) 64 rfl Tryz.underlying22 info62 rfl (by decide) (by omega) u3 x3_1 (⟨(rd_T62 l0 x4_1).f0, (⟨t416, t417⟩ : S25), (rd_T62 l0 x4_1).f2, (rd_T62 l0 x4_1).f3⟩ : S62) [.int .i64 ((rd_T62 l0 x4_1).f0), .string t416, .slice Ao10 t417.length co10, .int .i64 ((rd_T62 l0 x4_1).f2), .int .i64 ((rd_T62 l0 x4_1).f3)] (fun k_ => k_ ≠ gb415) (fun k_ => some k_ = (.slice Ao10 t417.length co10 : Value).ownBlock) rfl rfl ?aP (fun k_ hk_ => ((Kd.R_mono (ok' := fun k_ => ((fun k_ => k_ ≠ gb415)) k_ ∧ some k_ ≠ (u3 : Value).ownBlock) (Kd.R_types (Kd.R_apart' (HO419.out) (Kd.S_typed HO_3.out) (by decide)) BK415.out (by decide)) (fun k_ hk => ⟨hk.2, hk.1.2⟩))).1 k_ hk_.symm) ?aF ?aO ?aB ?aS ?aL ?_; (case aP => exact k62_mkM _ _ _ (⟨(rd_T62 l0 x4_1).f0, (⟨t416, t417⟩ : S25), (rd_T62 l0 x4_1).f2, (rd_T62 l0 x4_1).f3⟩ : S62) (Kd.R_mono (Kd.R_tight rfl (Kd.R_mono (ok' := fun k_ => ((fun k_ => k_ ≠ gb415)) k_ ∧ some k_ ≠ (u3 : Value).ownBlock) (Kd.R_types (Kd.R_apart' (HO419.out) (Kd.S_typed HO_3.out) (by decide)) BK415.out (by decide)) (fun k_ hk => ⟨hk.2, hk.1.2⟩))) (fun _ h_ => h_))); (case aB => exact (bB1 GE415.out)); (case aF => exact (fun k_ hk => Kd.freshB (g := gb415) (o := .cells #[.int .i64 ((rd_T62 l0 x4_1).f0), .string t416, .slice Ao10 t417.length co10, .int .i64 ((rd_T62 l0 x4_1).f2), .int .i64 ((rd_T62 l0 x4_1).f3)] 62 (0, 0)) (by refine bk ?_; exact BK415.out) k_ hk)); (case aO => exact (by (with_reducible repeat (first | apply Kd.S_alloc | apply Kd.S_drewN | apply Kd.S_drew)); exact Kd.S_mono HO_3.out (fun k_ hk => ⟨hk.2, fun e_ => hk.1 e_⟩))); (case aS => exact (below_size (bB1 GE415.out))); (case aL => have := LMc5.out; omega); intro v421 w13 ho hb hg hat; rw [← Ny420.out] at ho; have n0_ := Aside0.mk (blk_grown (g := gb415) (o := .cells #[.int .i64 ((rd_T62 l0 x4_1).f0), .string t416, .slice Ao10 t417.length co10, .int .i64 ((rd_T62 l0 x4_1).f2), .int .i64 ((rd_T62 l0 x4_1).f3)] 62 (0, 0)) (by refine bk ?_; exact BK415.out) hg (Kd.S_away HO_3.out (fun _ hk => hk.2))); have n1_ := Aside0.mk (hb); have n2_ := Aside0.mk (ho); clear BK415; clear HB; clear HO_3; clear HO419; have BK415 := n0_; have HB := n1_; have HO422 := n2_; clear n0_ n1_ n2_; clear ho hb hg hat))
      go_roundg k1
      case measure => have := HK1.out; omega
      case rel => exact ⟨(y420), (wrap64 (x4_1 + 1)), (by first | rfl | (simp; done) | (simp [*]; done)), H', ⟨by have := HK1.out; omega⟩, ⟨by (with_reducible repeat (first | apply Kd.S_alloc | apply Kd.S_drewN | apply Kd.S_drew)); exact Kd.S_mono HO422.out (fun _ hk => trivial)⟩, ⟨(bB1 GE415.out)⟩⟩
     ·rw [if_neg c5] at H
      exact absurd H (by simp)
    ·rw [if_neg c3] at H
     exact absurd H (by simp)
   ·rw [if_neg c2] at H
    have c2b0 : decide (x4_1 < (l0.length : Int)) = false := decide_eq_false c2
    clear c2
    obtain rfl := Option.some.inj H
    go_wp2
    go_ret
    exact ⟨_, eW, by (with_reducible repeat (first | apply Kd.S_alloc | apply Kd.S_drewN | apply Kd.S_drew)); exact HO_3.out, bB0⟩

end Go.Proofs.YtghommaokdhjmaaGreat.P
namespace Go.Proofs.YtghommaokdhjmaaGreat.P
open Go.RowKit Go.Proofs.YtghommaokdhjmaaGreatW.PrintWords Go.Proofs.YtghommaokdhjmaaGreatW.PrintLast Gate

/-! ### constablelaw25_top: function 26 -/
def constablelaw25_top.f (k : Nat) (l0 : List (S62)) (a1 : Int) : Option ((List (S62))) := (constablekeep_TwinNodes.f k l0).bind fun t423 => (if t423.length < 2199023255552 then (some (t423 ++ [(⟨a1, (⟨(⟨#[]⟩ : ByteArray), ([] : List (S92))⟩ : S25), wrap64 ((l0.length : Int) - 1), 0⟩ : S62)])) else (none))
theorem constablelaw25_top.mono : ∀ a0 a1 k, LeO (constablelaw25_top.f k a0 a1) (constablelaw25_top.f (k + 1) a0 a1) := by
 intro a0 a1 k
 unfold constablelaw25_top.f
 repeat' first
   | (with_reducible exact constablekeep_TwinNodes.mono _ _)
   | (with_reducible exact LeO.refl _)
   | (with_reducible exact LeO.none _)
   | (with_reducible refine LeO.ite ?_ ?_)
   | (with_reducible refine LeO.bind ?_ (fun _ => ?_))
set_option maxHeartbeats 8000000 in
set_option maxRecDepth 100000 in
theorem constablelaw25_top.calls (k : Nat) (A0 : Option Addr) (c0 : Nat) (l0 : List (S62)) (a1 : Int) (r : List (S62)) (w : World) (hr0 : Kd.C k62 w A0 l0.length l0) (hc0 : l0.length ≤ c0) (h : constablelaw25_top.f k l0 a1 = some r) :
  Calls Tryz.prog 26 #[.slice A0 l0.length c0, .int .i64 a1] w fun e w' => ∃ v0_ : Value, e = .returned (v0_) ∧ Kd.S k62 62 w' w.heap.size (fun _ => True) v0_ r ∧ Below w.heap.size w w' := by
 have hu62 := Tryz.underlying62
 have HR0 := Aside0.mk hr0
 have HC0 := Aside0.mk hc0
 clear hr0 hc0
 have HB := Aside0.mk (Below.refl w.heap.size w)
 have H : ((constablekeep_TwinNodes.f k l0).bind fun t423 => (if t423.length < 2199023255552 then (some (t423 ++ [(⟨a1, (⟨(⟨#[]⟩ : ByteArray), ([] : List (S92))⟩ : S25), wrap64 ((l0.length : Int) - 1), 0⟩ : S62)])) else (none))) = some r := h
 clear h
 replace H := Option.bind_eq_some_iff.mp H
 obtain ⟨t423, A30, H⟩ := H
 replace H : (if t423.length < 2199023255552 then (some (t423 ++ [(⟨a1, (⟨(⟨#[]⟩ : ByteArray), ([] : List (S92))⟩ : S25), wrap64 ((l0.length : Int) - 1), 0⟩ : S62)])) else (none)) = some r := H
 have A3 := Aside0.mk A30
 clear A30
 by_cases c4 : t423.length < 2199023255552
 ·rw [if_pos c4] at H
  have LMc4 := Aside0.mk c4
  clear c4
  obtain ⟨y426, hy426⟩ : ∃ y_ : List (S62), y_ = (t423 ++ [(⟨a1, (⟨(⟨#[]⟩ : ByteArray), ([] : List (S92))⟩ : S25), wrap64 ((l0.length : Int) - 1), 0⟩ : S62)]) := ⟨_, rfl⟩
  replace H : (some y426) = some r := by first | (rw [hy426]; with_reducible exact H) | (have H2_ := (Option.bind_some _ _).symm.trans H; rw [hy426]; with_reducible exact H2_) | (have H2_ := (Option.bind_some _ _).symm.trans H; with_reducible exact H2_) | with_reducible exact H | (rw [hy426]; exact H) | exact H
  have Ny426 := Aside0.mk hy426
  clear hy426
  obtain rfl := Option.some.inj H
  go_enter Tryz.func26, Tryz.ntmps26
  go_wp2_with (first | ((with_reducible refine gate_callee (f := 57) rfl ?_); refine goesL_ (some 6) rfl rfl Tryz.func57 (by kernel_rfl) rfl #[.slice A0 l0.length c0] rfl aG ?_; (with_reducible refine (constablekeep_TwinNodes.calls k _ _ l0 t423 _ ?side1 ?side2 A3.out).mono ?_); (case side1 => exact sC HR0.out); (case side2 => exact HC0.out); rintro e w5 ⟨v424, rfl, ho0, hb⟩; refine ⟨_, rfl, ?_⟩; have n0_ := Aside0.mk (Kd.S_lower ho0 (below_size bB0)); have n1_ := Aside0.mk (below_step bB0 hb); clear HB; have HO425 := n0_; have HB := n1_; clear n0_ n1_; (try clear hb); (try clear hb2); (try clear hk); (try clear hi); (try clear ho0)) | ((with_reducible refine gate_builtin (b := .append) (xs := #[.tmp 6, .tmp 12]) rfl ?_); at_builtin; refine Kd.S_append k62 (w0 := w) w.heap.size rfl (.tmp 6) (.tmp 12) 22 62 (.agg #[(.int .i64 0), (.string ⟨#[]⟩), (.slice none 0 0), (.int .i64 0), (.int .i64 0)]) 64 rfl Tryz.underlying22 info62 rfl (by decide) (by omega) v424 t423 (⟨a1, (⟨(⟨#[]⟩ : ByteArray), ([] : List (S92))⟩ : S25), wrap64 ((l0.length : Int) - 1), 0⟩ : S62) [.int .i64 a1, .string (⟨#[]⟩ : ByteArray), .slice none 0 0, .int .i64 (wrap64 ((l0.length : Int) - 1)), .int .i64 0] (fun _ => True) (fun _ => False) rfl rfl ?aP (fun k_ hk_ => hk_.elim) ?aF ?aO ?aB ?aS ?aL ?_; (case aP => exact k62_mkM _ _ _ (⟨a1, (⟨(⟨#[]⟩ : ByteArray), ([] : List (S92))⟩ : S25), wrap64 ((l0.length : Int) - 1), 0⟩ : S62) (Kd.R_nil _ _ _ _ _)); (case aB => exact bB0); (case aF => exact (fun _ _ => trivial)); (case aO => exact (by (with_reducible repeat (first | apply Kd.S_alloc | apply Kd.S_drewN | apply Kd.S_drew)); exact Kd.S_mono HO425.out (fun k_ hk => ⟨trivial, fun e_ => e_⟩))); (case aS => exact (below_size bB0)); (case aL => have := LMc4.out; omega); intro v427 w6 ho hb hg hat; rw [← Ny426.out] at ho; have n0_ := Aside0.mk (hb); have n1_ := Aside0.mk (ho); clear HB; clear HO425; have HB := n0_; have HO428 := n1_; clear n0_ n1_; clear ho hb hg hat))
  go_ret
  exact ⟨_, eW, by (with_reducible repeat (first | apply Kd.S_alloc | apply Kd.S_drewN | apply Kd.S_drew)); exact HO428.out, bB0⟩
 ·rw [if_neg c4] at H
  exact absurd H (by simp)

end Go.Proofs.YtghommaokdhjmaaGreat.P
/- The statements' own builders of formulas: a copy, a node on it, two formulas below a node. -/
namespace Go.Proofs.YtghommaokdhjmaaGreat.Sat
open Go.RowKit Go.Lib Go.Sort Go.Proofs.SymP Go.Proofs.YtghommaokdhjmaaGreatW.PrintWords P FactC IRow Frm SpecM SpecB PSat PSpec CmpF BothB SortStr Str
theorem twin_loop (l : List S62) (hf : ∀ x ∈ l, x.f1.f1.length ≤ 1000) (hl : l.length ≤ 100000) : ∀ (m i : Nat), i + m = l.length → ∀ acc : List S62, acc.length ≤ i → Ev (fun k => constablekeep_TwinNodes.l0 k l acc i) (acc ++ l.drop i) := by
 intro m
 induction m with
 | zero =>
  intro i h acc _
  refine Ev.step (fun k => by rw [constablekeep_TwinNodes.l0, if_neg (by omega)]) ?_
  rw [List.drop_eq_nil_of_le (by omega), List.append_nil]
  exact Ev.now _
 | succ m ih =>
  intro i h acc ha
  have hi : i < l.length := by omega
  have hx := hf l[i] (List.getElem_mem hi)
  refine Ev.step (fun k => by rw [constablekeep_TwinNodes.l0, if_pos (by omega), if_pos (by omega), rd62_get hi, constablekeep_TwinAtom.f, if_pos (by simp; omega), Option.bind_some, if_pos (by omega), show wrap64 ((i : Int) + 1) = ((i + 1 : Nat) : Int) by unfold wrap64; omega]) ?_
  have := ih (i + 1) (by omega) (acc ++ [l[i]]) (by simp; omega)
  rw [List.drop_eq_getElem_cons hi]
  simpa using this
theorem ev_twin {l : List S62} (hf : fitNs l) : Ev (fun k => constablekeep_TwinNodes.f k l) l := by
 have := twin_loop l (fun x hx => (hf.1 x hx).2) hf.2 l.length 0 (by omega) [] (by simp)
 simpa [constablekeep_TwinNodes.f] using this
theorem ev_top {l : List S62} (hf : fitNs l) (a : Int) : Ev (fun k => constablelaw25_top.f k l a) (topN l a) := by
 unfold constablelaw25_top.f
 refine Ev.bind (ev_twin hf) ?_
 have := hf.2
 simp only [if_pos (show l.length < 2199023255552 by omega)]
 have hw : wrap64 ((l.length : Int) - 1) = (l.length : Int) - 1 := by unfold wrap64; omega
 rw [hw]
 exact Ev.now _
theorem top_calls {w : World} {A : Option Addr} {n c : Nat} {l : List S62} (h : NRow w A n c l) (hf : fitNs l) (k : Int) : Calls Tryz.prog 26 #[.slice A n c, .int .i64 k] w fun e w' => ∃ A' c', e = .returned (.slice A' (n + 1) c') ∧ NRow w' A' (n + 1) c' (topN l k) ∧ Go.RowKit.Below w.heap.size w w' := by
 obtain rfl := h.len
 obtain ⟨q, hq⟩ := (ev_top hf k).rounds
 refine (constablelaw25_top.calls q A c l k _ w h.C h.cap hq).mono ?_
 rintro e w' ⟨v, rfl, hS, hb⟩
 obtain ⟨A', c', rfl, hc, hC⟩ := Kd.S_reads hS
 have hl : (topN l k).length = l.length + 1 := by unfold topN; simp
 rw [hl] at hc hC ⊢
 exact ⟨A', c', rfl, ⟨hl, hc, hC⟩, hb⟩
theorem fit_top {l : List S62} (hf : fitNs l) (hl : l.length ≤ 1000) (k : Int) : fitNs (topN l k) := by
 unfold topN
 refine ⟨fun x hx => ?_, by simp; omega⟩
 rcases List.mem_append.1 hx with hx | hx
 ·exact hf.1 x hx
 ·obtain rfl := List.mem_singleton.1 hx
  exact ⟨⟨by show ByteArray.size ⟨#[]⟩ ≤ 1000000; decide, rfl⟩, by simp⟩
/-- A row of nodes of the call's own; R: what is known of an element's cells. -/
def OwnE (R : S62 → List Value → Prop) (W : World) (b : Nat) (v : Value) (xs : List S62) : Prop := ∃ ui, W.ownsRow b 62 5 v xs.length ui ∧ Reps R 5 xs ui
theorem OwnE.below {R : S62 → List Value → Prop} {W W' : World} {b : Nat} {v : Value} {xs : List S62} (h : OwnE R W b v xs) (hb : Go.RowKit.Below W.heap.size W W') : OwnE R W' b v xs := by
 obtain ⟨ui, ho, hr⟩ := h
 exact ⟨ui, own_move ho (fun k hk => hb.block k (own_lt ho k hk)), hr⟩
theorem OwnE.row {R : S62 → List Value → Prop} {W : World} {b : Nat} {A : Option Addr} {n c : Nat} {xs : List S62} (h : OwnE R W b (.slice A n c) xs) (hn : xs.length = n) (hR : ∀ x cs, R x cs → k62.K W x cs) : NRow W A n c xs := by
 subst hn
 obtain ⟨ui, ho, hr⟩ := h
 have hcap : xs.length ≤ c := own_le ho
 obtain ⟨A', c', e, hR⟩ := own_reads_row ho (hr.imp_ hR) rfl
 injection e with e1 e2 e3
 subst e1
 exact ⟨rfl, hcap, hR⟩
theorem infoN : (Tryz.prog.info? 62).map (fun i => (i.zero, i.size, i.bytes)) = some (some (.agg #[.int .i64 0, .string ⟨#[]⟩, .slice none 0 0, .int .i64 0, .int .i64 0]), 5, 64) := by kernel_rfl
theorem appendN {R : S62 → List Value → Prop} {W : World} (b : Nat) (u : Value) (xs : List S62) (m : Nat) (hm : xs.length = m) (x : S62) (A : Option Addr) (c : Nat) (h : OwnE R W b u xs) (hx : R x [.int .i64 x.f0, .string x.f1.f0, .slice A x.f1.f1.length c, .int .i64 x.f2, .int .i64 x.f3]) (hb : b ≤ W.heap.size) (hl : m ≤ 1000000) :
  ∃ A' c' w', (∀ ty, (Builtin.append_ #[22, 22] ty #[u, .slice (some ⟨W.heap.size, 0, none⟩) 1 1]).run Tryz.prog (W.alloc (.cells #[.int .i64 x.f0, .string x.f1.f0, .slice A x.f1.f1.length c, .int .i64 x.f2, .int .i64 x.f3] 62)) = .ok (.slice A' (m + 1) c') w') ∧ OwnE R w' b (.slice A' (m + 1) c') (xs ++ [x]) ∧ Go.RowKit.Below b W w' ∧ (∀ k, k < W.heap.size → u.ownBlock ≠ some k → w'.heap[k]? = W.heap[k]?) ∧ ((Value.slice A' (m + 1) c').ownBlock = u.ownBlock ∨ ∃ k, (Value.slice A' (m + 1) c').ownBlock = some k ∧ W.heap.size ≤ k) := by
 subst hm
 have hin := infoN
 rcases hinf : Tryz.prog.info? 62 with _ | i
 ·rw [hinf] at hin; cases hin
 rw [hinf] at hin
 simp only [Option.map_some, Option.some.injEq, Prod.mk.injEq] at hin
 obtain ⟨hz, hsz, hby⟩ := hin
 have ht : Tryz.prog.underlying 22 = some (.slice 62) := Tryz.underlying22
 obtain ⟨ui, uo, ur⟩ := h
 have uo' := own_alloc uo (.cells #[.int .i64 x.f0, .string x.f1.f0, .slice A x.f1.f1.length c, .int .i64 x.f2, .int .i64 x.f3] 62)
 have hb' : b ≤ (W.alloc (.cells #[.int .i64 x.f0, .string x.f1.f0, .slice A x.f1.f1.length c, .int .i64 x.f2, .int .i64 x.f3] 62)).heap.size := by simp; omega
 obtain ⟨u', w', hr, ho, hg, _, hat⟩ := run_append_own_at (P := Tryz.prog) _ b 22 0 62 i _ 5 64 ht hinf hz hsz hby (by rfl) (by decide) u xs.length ui uo' ⟨W.heap.size, 0, none⟩ 1 1 [.int .i64 x.f0, .string x.f1.f0, .slice A x.f1.f1.length c, .int .i64 x.f2, .int .i64 x.f3] rfl (fun j v hv => by
  rcases j with _ | _ | _ | _ | _ | j
  ·obtain rfl : Value.int .i64 x.f0 = v := by simpa using hv
   simp [Addr.add]
  ·obtain rfl : Value.string x.f1.f0 = v := by simpa using hv
   simp [Addr.add]
  ·obtain rfl : Value.slice A x.f1.f1.length c = v := by simpa using hv
   simp [Addr.add]
  ·obtain rfl : Value.int .i64 x.f2 = v := by simpa using hv
   simp [Addr.add]
  ·obtain rfl : Value.int .i64 x.f3 = v := by simpa using hv
   simp [Addr.add]
  ·simp at hv) (fun v hv => by
  simp only [List.mem_cons, List.not_mem_nil, or_false] at hv
  rcases hv with rfl | rfl | rfl | rfl | rfl <;> rfl) (by unfold maxLen; omega) (by omega) hb'
 have hbw : Go.RowKit.Below b W w' := ((Go.RowKit.Below.refl b W).alloc hb _).grown hg hb' (fun k hk => (uo'.lt k hk).1)
 have hys : Reps R 5 [x] [.int .i64 x.f0, .string x.f1.f0, .slice A x.f1.f1.length c, .int .i64 x.f2, .int .i64 x.f3] := ⟨rfl, fun j p hj => by
  rcases j with _ | j
  ·obtain rfl : x = p := by simpa using hj
   exact hx
  ·simp at hj⟩
 obtain ⟨A', c', rfl⟩ := own_slice ho
 refine ⟨A', c', w', fun ty => hr, ⟨_, ?_, Kd.reps_append ur hys⟩, hbw, fun k hk hne => ?_, ?_⟩
 rotate_left
 ·exact (hg.block k (by simp; omega) (fun e => hne e.symm)).trans (((Go.RowKit.Below.refl W.heap.size W).alloc (Nat.le_refl _) _).block k hk)
 ·rcases hat with h | h
  ·exact .inl h
  ·exact .inr ⟨_, h, by simp⟩
 rw [show (xs ++ [x]).length = xs.length + 1 by simp]
 exact ho
end Go.Proofs.YtghommaokdhjmaaGreat.Sat
/- Two formulas below a node: the statements' join, walked. -/
namespace Go.Proofs.YtghommaokdhjmaaGreat.Sat
open Go.RowKit Go.Lib Go.Sort Go.Proofs.SymP Go.Proofs.YtghommaokdhjmaaGreatW.PrintWords P FactC IRow Frm SpecM SpecB PSat PSpec CmpF BothB SortStr Str
/-- What is known of an element's cells: made by the copy, apart from its row; or read at the beginning. -/
def ER (w w1 : World) (v : Value) (x : S62) (cs : List Value) : Prop := k62.M w1 w.heap.size (fun k => v.ownBlock ≠ some k ∧ k < w1.heap.size) x cs ∨ k62.K w x cs
theorem ER.K {w w1 W : World} {v : Value} {x : S62} {cs : List Value} (h : ER w w1 v x cs) (hk : ∀ k, k < w1.heap.size → v.ownBlock ≠ some k → W.heap[k]? = w1.heap[k]?) (hb : Go.RowKit.Below w.heap.size w W) : k62.K W x cs := by
 rcases h with h | h
 ·exact k62.K_of_M (Kd.M_step h (fun k hk1 _ => hk k hk1.2 hk1.1))
 ·exact k62.K_below hb h
theorem i64_wrap (z : Int) : IntKind.i64.wrap z = wrap64 z := by rw [IntKind.wrap_i64]; unfold wrap64; rfl
set_option maxHeartbeats 8000000 in
set_option maxRecDepth 1000000 in
theorem join_calls {w : World} {A B : Option Addr} {a b ca cb : Nat} {m n : List S62} (hm : NRow w A a ca m) (hn : NRow w B b cb n) (fm : fitNs m) (ha : a ≤ 1000) (hb1 : b ≤ 1000) (kd : Int) :
  Calls Tryz.prog 27 #[.slice A a ca, .slice B b cb, .int .i64 kd] w fun e w' => ∃ A' c', e = .returned (.slice A' (a + b + 1) c') ∧ NRow w' A' (a + b + 1) c' (joinN m n kd) ∧ Go.RowKit.Below w.heap.size w w' := by
 have hu := Tryz.underlying62
 have HT : Aside0 (Calls Tryz.prog 57 #[.slice A a ca] w fun e w' => ∃ A1 c1, e = .returned (.slice A1 a c1) ∧ OwnE (ER w w' (.slice A1 a c1)) w' w.heap.size (.slice A1 a c1) m ∧ Go.RowKit.Below w.heap.size w w') := ⟨by
  obtain rfl := hm.len
  obtain ⟨k, hk⟩ := (ev_twin fm).rounds
  refine (constablekeep_TwinNodes.calls k A ca m m w hm.C hm.cap hk).mono ?_
  rintro e w' ⟨v, rfl, hS, hb⟩
  obtain ⟨A1, c1, rfl, _, _⟩ := Kd.S_reads hS
  obtain ⟨_, inner, ho, hr⟩ := Kd.R_bound (Kd.S_R hS)
  exact ⟨A1, c1, rfl, ⟨inner, ho, hr.imp_ (fun _ _ hp => .inl (k62.M_mono (fun k hk => ⟨fun e => hk.2 e.symm, hk.1.2.2.1⟩) hp))⟩, hb⟩⟩
 have HM := Aside0.mk hm.len
 have HN := Aside0.mk hn
 clear hm hn fm
 have kwa : IntKind.i64.wrap ((a : Int) - 1) = (a : Int) - 1 := kwrap (by omega) (by omega)
 go_enter Tryz.func27, Tryz.ntmps27
 go_wp2_with (first
  | (go_at_call 57; with_reducible refine HT.out.mono ?_; rintro e w1 ⟨A1, c1, rfl, hO, hb⟩; have HO := Aside0.mk hO; have HB1 := Aside0.mk hb; clear hO hb)
  | fail)
 go_loopg [7, 8] b (fun gg s7 s8 wr => ∃ (O : Option Addr) (co j : Nat), s7 = .slice O (a + j) co ∧ s8 = .int .i64 j ∧ j ≤ b ∧ b - j ≤ gg ∧ Aside0 (OwnE (ER w w1 (.slice A1 a c1)) wr w.heap.size (.slice O (a + j) co) (m ++ (n.take j).map (shN a)) ∧ Go.RowKit.Below w.heap.size w wr ∧ (∀ k, k < w1.heap.size → (Value.slice A1 a c1).ownBlock ≠ some k → wr.heap[k]? = w1.heap[k]?) ∧ ((Value.slice O (a + j) co).ownBlock = (Value.slice A1 a c1).ownBlock ∨ ∃ k, (Value.slice O (a + j) co).ownBlock = some k ∧ w1.heap.size ≤ k) ∧ w1.heap.size ≤ wr.heap.size))
 case atStart => exact ⟨A1, c1, 0, rfl, rfl, Nat.zero_le _, Nat.le_refl _, ⟨by simpa using HO.out, HB1.out, fun _ _ _ => rfl, .inl rfl, Nat.le_refl _⟩⟩
 case round =>
  obtain ⟨O, co, j, rfl, rfl, hj, hg, HI⟩ := hrel
  by_cases hlt : j < b
  ·have hltz : (j : Int) < (b : Int) := by omega
   have hj2 : j < n.length := by rw [HN.out.len]; exact hlt
   obtain ⟨ad, A2, c2, eA, y0, y1, y2, y3, y4, y5, y6⟩ := at_T62 HN.out.C (j : Int) (by omega) hltz
   subst eA
   rw [rd62_get hj2] at y0 y1 y2 y3 y4 y5 y6
   have HD : Aside0 (m ++ (n.take (j + 1)).map (shN a) = (m ++ (n.take j).map (shN a)) ++ [shN a n[j]]) := ⟨by rw [List.take_succ_eq_append_getElem hj2, List.map_append, List.append_assoc]; rfl⟩
   generalize n[j] = x at *
   rw [show ((j : Int)).toNat * 5 = j * 5 by omega] at y0 y1 y2 y3 y4
   have HKx := Aside0.mk (k62_mk w (shN a x) (A2 := A2) (c2 := c2) y5 y6)
   clear y5 y6
   replace y1 := (HI.out.2.1.cell (World.block_lt_of_cell? _ _ y1)).trans y1
   replace y2 := (HI.out.2.1.cell (World.block_lt_of_cell? _ _ y2)).trans y2
   replace y3 := (HI.out.2.1.cell (World.block_lt_of_cell? _ _ y3)).trans y3
   replace y4 := (HI.out.2.1.cell (World.block_lt_of_cell? _ _ y4)).trans y4
   replace y0 := (HI.out.2.1.cell (World.block_lt_of_cell? _ _ y0)).trans y0
   obtain ⟨s2, hs2⟩ : ∃ s2, s2 = (shN a x).f2 := ⟨_, rfl⟩
   obtain ⟨s3, hs3⟩ : ∃ s3, s3 = (shN a x).f3 := ⟨_, rfl⟩
   have HAP : Aside0 (∀ W, Go.RowKit.Below wr.heap.size wr W → ∃ A' c' w', (∀ ty, (Builtin.append_ #[22, 22] ty #[.slice O (a + j) co, .slice (some ⟨W.heap.size, 0, none⟩) 1 1]).run Tryz.prog (W.alloc (.cells #[.int .i64 x.f0, .string x.f1.f0, .slice A2 x.f1.f1.length c2, .int .i64 s2, .int .i64 s3] 62)) = .ok (.slice A' (a + (j + 1)) c') w') ∧
     OwnE (ER w w1 (.slice A1 a c1)) w' w.heap.size (.slice A' (a + (j + 1)) c') (m ++ (n.take (j + 1)).map (shN a)) ∧ Go.RowKit.Below w.heap.size w w' ∧ (∀ k, k < w1.heap.size → (Value.slice A1 a c1).ownBlock ≠ some k → w'.heap[k]? = w1.heap[k]?) ∧ ((Value.slice A' (a + (j + 1)) c').ownBlock = (Value.slice A1 a c1).ownBlock ∨ ∃ k, (Value.slice A' (a + (j + 1)) c').ownBlock = some k ∧ w1.heap.size ≤ k) ∧ w1.heap.size ≤ w'.heap.size) := ⟨fun W hW => by
    obtain ⟨q1, q2, q3, q4, q5⟩ := HI.out
    have hle : w.heap.size ≤ W.heap.size := Nat.le_trans q2.size hW.size
    obtain ⟨A', c', w', r1, r2, r3, r4, r5⟩ := appendN (W := W) w.heap.size (.slice O (a + j) co) (m ++ (n.take j).map (shN a)) (a + j) (by rw [List.length_append, List.length_map, List.length_take, HM.out]; omega) (shN a x) A2 c2 (q1.below hW) (.inr HKx.out) hle (by omega)
    rw [hs2, hs3, HD.out]
    refine ⟨A', c', w', r1, r2, (q2.trans (hW.mono q2.size)).trans r3, fun k hk hne => ?_, ?_, by have := r3.size; have := hW.size; omega⟩
    ·rw [r4 k (by have := hW.size; omega) (fun e => by
      rcases q4 with q4 | ⟨k', q4, q6⟩
      ·exact hne (q4.symm.trans e)
      ·rw [e] at q4; injection q4 with q4; omega), hW.block k (by omega)]
     exact q3 k hk hne
    ·rcases r5 with r5 | ⟨k', r5, r6⟩
     ·rcases q4 with q4 | ⟨k', q4, q6⟩
      ·exact .inl (r5.trans q4)
      ·exact .inr ⟨k', r5.trans q4, q6⟩
     ·exact .inr ⟨k', r5, by have := hW.size; omega⟩⟩
   by_cases k1 : x.f0 = 1
   ·have hs2' : s2 = x.f2 := by rw [hs2]; show (if x.f0 ≠ 1 then _ else _) = _; rw [if_neg (by simp [k1])]
    have hs3' : s3 = x.f3 := by rw [hs3]; show (if two x.f0 then _ else _) = _; rw [if_neg (by unfold two; omega)]
    clear hs2 hs3
    rw [k1] at y0 HAP
    rw [← hs2'] at y3
    rw [← hs3'] at y4
    clear k1 hs2' hs3'
    go_upto_region 10 with fail
    refine wp_world (fun V => V.cell? ⟨wr.heap.size, 0, none⟩ = some (.int .i64 1) ∧ V.cell? ⟨wr.heap.size, 1, none⟩ = some (.string x.f1.f0) ∧ V.cell? ⟨wr.heap.size, 2, none⟩ = some (.slice A2 x.f1.f1.length c2) ∧ V.cell? ⟨wr.heap.size, 3, none⟩ = some (.int .i64 s2) ∧ V.cell? ⟨wr.heap.size, 4, none⟩ = some (.int .i64 s3) ∧ Go.RowKit.Below wr.heap.size wr V) ⟨by simp, by simp, by simp, by simp, by simp, by repeat (first | exact Go.RowKit.Below.refl _ _ | apply below_alloc | (refine below_set ?_ (Nat.le_refl _)))⟩ ?_
    rintro V ⟨z0, z1, z2, z3, z4, hbV⟩
    have HAV := Aside0.mk (HAP.out V hbV)
    clear HAP y0 y1 y2 y3 y4 hbV
    go_wp2_with (first
     | (at_builtin; obtain ⟨A', c', w5, happ, hrest⟩ := HAV.out; refine Lib.wpList_append_run _ (by rfl) (.tmp 50) (.tmp 52) 22 22 (by rfl) (.slice O (a + j) co) (.slice (some ⟨V.heap.size, 0, none⟩) 1 1) (by rfl) (by rfl) (.slice A' (a + (j + 1)) c') w5 (happ 22) ?_; have HR := Aside0.mk hrest; clear hrest happ)
     | fail)
    go_roundg (b - (j + 1))
    case measure => omega
    case rel => exact ⟨A', c', j + 1, rfl, by go_num, by omega, by omega, ⟨HR.out⟩⟩
   ·have e1 : (x.f0 != 1) = true := by simp [k1]
    have hs2' : IntKind.i64.wrap (x.f2 + (a : Int)) = s2 := by rw [hs2, i64_wrap]; show _ = (if x.f0 ≠ 1 then _ else _); rw [if_pos k1]
    clear hs2
    by_cases k2 : two x.f0
    ·have hs3' : IntKind.i64.wrap (x.f3 + (a : Int)) = s3 := by rw [hs3, i64_wrap]; show _ = (if two x.f0 then _ else _); rw [if_pos k2]
     clear hs3
     obtain ⟨kk, hkk⟩ : ∃ kk, kk = x.f0 := ⟨_, rfl⟩
     rw [← hkk] at y0 HAP e1 k2
     unfold two at k2
     clear k1 hkk
     have ek : (kk == 3) = true ∨ ((kk == 3) = false ∧ (kk == 4) = true) ∨ ((kk == 3) = false ∧ (kk == 4) = false ∧ (kk == 8) = true) := by
      rcases k2 with h | h | h
      ·exact .inl (by simp [h])
      ·exact .inr (.inl (by simp [h]))
      ·exact .inr (.inr (by simp [h]))
     clear k2
     rcases ek with ek | ⟨ek, ek2⟩ | ⟨ek, ek2, ek3⟩
     all_goals (
      go_upto_region 10 with fail
      refine wp_world (fun V => V.cell? ⟨wr.heap.size, 0, none⟩ = some (.int .i64 kk) ∧ V.cell? ⟨wr.heap.size, 1, none⟩ = some (.string x.f1.f0) ∧ V.cell? ⟨wr.heap.size, 2, none⟩ = some (.slice A2 x.f1.f1.length c2) ∧ V.cell? ⟨wr.heap.size, 3, none⟩ = some (.int .i64 s2) ∧ V.cell? ⟨wr.heap.size, 4, none⟩ = some (.int .i64 s3) ∧ Go.RowKit.Below wr.heap.size wr V) ⟨by simp, by simp, by simp, by simp, by simp, by repeat (first | exact Go.RowKit.Below.refl _ _ | apply below_alloc | (refine below_set ?_ (Nat.le_refl _)))⟩ ?_
      rintro V ⟨z0, z1, z2, z3, z4, hbV⟩
      have HAV := Aside0.mk (HAP.out V hbV)
      clear HAP y0 y1 y2 y3 y4 hbV
      go_wp2_with (first
       | (at_builtin; obtain ⟨A', c', w5, happ, hrest⟩ := HAV.out; refine Lib.wpList_append_run _ (by rfl) (.tmp 50) (.tmp 52) 22 22 (by rfl) (.slice O (a + j) co) (.slice (some ⟨V.heap.size, 0, none⟩) 1 1) (by rfl) (by rfl) (.slice A' (a + (j + 1)) c') w5 (happ 22) ?_; have HR := Aside0.mk hrest; clear hrest happ)
       | fail)
      go_roundg (b - (j + 1))
      case measure => omega
      case rel => exact ⟨A', c', j + 1, rfl, by go_num, by omega, by omega, ⟨HR.out⟩⟩)
    ·have hs3' : s3 = x.f3 := by rw [hs3]; show (if two x.f0 then _ else _) = _; rw [if_neg k2]
     clear hs3
     obtain ⟨kk, hkk⟩ : ∃ kk, kk = x.f0 := ⟨_, rfl⟩
     rw [← hkk] at y0 HAP e1 k2
     rw [← hs3'] at y4
     unfold two at k2
     have e3 : (kk == 3) = false := by simp; omega
     have e4 : (kk == 4) = false := by simp; omega
     have e8 : (kk == 8) = false := by simp; omega
     clear k1 k2 hkk hs3'
     go_upto_region 10 with fail
     refine wp_world (fun V => V.cell? ⟨wr.heap.size, 0, none⟩ = some (.int .i64 kk) ∧ V.cell? ⟨wr.heap.size, 1, none⟩ = some (.string x.f1.f0) ∧ V.cell? ⟨wr.heap.size, 2, none⟩ = some (.slice A2 x.f1.f1.length c2) ∧ V.cell? ⟨wr.heap.size, 3, none⟩ = some (.int .i64 s2) ∧ V.cell? ⟨wr.heap.size, 4, none⟩ = some (.int .i64 s3) ∧ Go.RowKit.Below wr.heap.size wr V) ⟨by simp, by simp, by simp, by simp, by simp, by repeat (first | exact Go.RowKit.Below.refl _ _ | apply below_alloc | (refine below_set ?_ (Nat.le_refl _)))⟩ ?_
     rintro V ⟨z0, z1, z2, z3, z4, hbV⟩
     have HAV := Aside0.mk (HAP.out V hbV)
     clear HAP y0 y1 y2 y3 y4 hbV
     go_wp2_with (first
      | (at_builtin; obtain ⟨A', c', w5, happ, hrest⟩ := HAV.out; refine Lib.wpList_append_run _ (by rfl) (.tmp 50) (.tmp 52) 22 22 (by rfl) (.slice O (a + j) co) (.slice (some ⟨V.heap.size, 0, none⟩) 1 1) (by rfl) (by rfl) (.slice A' (a + (j + 1)) c') w5 (happ 22) ?_; have HR := Aside0.mk hrest; clear hrest happ)
      | fail)
     go_roundg (b - (j + 1))
     case measure => omega
     case rel => exact ⟨A', c', j + 1, rfl, by go_num, by omega, by omega, ⟨HR.out⟩⟩
  ·have hltz : ¬ (j : Int) < (b : Int) := by omega
   obtain rfl : b = j := by omega
   have hT : n.take b = n := List.take_of_length_le (by rw [HN.out.len]; exact Nat.le_refl _)
   rw [hT] at HI
   obtain ⟨sL, hsL⟩ : ∃ sL : Int, sL = (a : Int) + (b : Int) - 1 := ⟨_, rfl⟩
   have HAP : Aside0 (∃ A' c' w', (∀ ty, (Builtin.append_ #[22, 22] ty #[.slice O (a + b) co, .slice (some ⟨wr.heap.size, 0, none⟩) 1 1]).run Tryz.prog (wr.alloc (.cells #[.int .i64 kd, .string ⟨#[]⟩, .slice none 0 0, .int .i64 ((a : Int) - 1), .int .i64 sL] 62)) = .ok (.slice A' (a + b + 1) c') w') ∧ NRow w' A' (a + b + 1) c' (joinN m n kd) ∧ Go.RowKit.Below w.heap.size w w') := ⟨by
    obtain ⟨q1, q2, q3, q4, q5⟩ := HI.out
    have hlen : (m ++ n.map (shN a)).length = a + b := by rw [List.length_append, List.length_map, HM.out, HN.out.len]
    obtain ⟨A', c', w', r1, r2, r3, r4, r5⟩ := appendN (W := wr) w.heap.size (.slice O (a + b) co) (m ++ n.map (shN a)) (a + b) hlen ⟨kd, ⟨⟨#[]⟩, []⟩, (a : Int) - 1, sL⟩ none 0 q1 (.inr (k62_mk w ⟨kd, ⟨⟨#[]⟩, []⟩, (a : Int) - 1, sL⟩ (A2 := none) (c2 := 0) (Nat.le_refl _) ⟨rfl, Nat.zero_le _, fun h => absurd (show 0 < 0 from h) (Nat.lt_irrefl 0)⟩)) q2.size (by omega)
    refine ⟨A', c', w', r1, ?_, q2.trans r3⟩
    have hj : joinN m n kd = (m ++ n.map (shN a)) ++ [⟨kd, ⟨⟨#[]⟩, []⟩, (a : Int) - 1, sL⟩] := by
     unfold joinN
     rw [HM.out, HN.out.len, hsL]
     rfl
    rw [hj]
    refine OwnE.row r2 (by rw [List.length_append, hlen]; rfl) (fun x cs hR => hR.K (fun k hk hne => ?_) (q2.trans r3))
    rw [r4 k (by omega) (fun e => by
     rcases q4 with q4 | ⟨k', q4, q6⟩
     ·exact hne (q4.symm.trans e)
     ·rw [e] at q4; injection q4 with q4; omega)]
    exact q3 k hk hne⟩
   have kwL : IntKind.i64.wrap ((a : Int) + (b : Int) - 1) = sL := by rw [hsL]; exact kwrap (by omega) (by omega)
   have kwL2 : IntKind.i64.wrap (((a + b : Nat) : Int) - 1) = sL := by rw [hsL, Int.natCast_add]; exact kwrap (by omega) (by omega)
   clear hsL hT
   go_wp2_with (first
    | (at_builtin; obtain ⟨A', c', w5, happ, hN5, hb5⟩ := HAP.out; refine Lib.wpList_append_run _ (by rfl) (.tmp 54) (.tmp 63) 22 22 (by rfl) (.slice O (a + b) co) (.slice (some ⟨wr.heap.size, 0, none⟩) 1 1) (by rfl) (by rfl) (.slice A' (a + b + 1) c') w5 (happ 22) ?_; have HR := Aside0.mk (And.intro hN5 hb5); clear hN5 hb5 happ)
    | fail)
   go_ret
   exact ⟨_, _, rfl, HR.out.1, HR.out.2⟩
end Go.Proofs.YtghommaokdhjmaaGreat.Sat
/- What the statements' witness is, plainly. -/
namespace Go.Proofs.YtghommaokdhjmaaGreat.Sat
open Go.RowKit Go.Lib Go.Sort Go.Proofs.SymP Go.Proofs.YtghommaokdhjmaaGreatW.PrintWords P FactC IRow Frm SpecM SpecB PSat PSpec CmpF BothB SortStr Str
theorem con_size (t : S92) : con t ↔ t.f0.size = 0 := by
 unfold con
 rw [ByteArray.toList_eq]
 constructor
 ·intro h; have := congrArg List.length h; simpa using this
 ·intro h; exact List.length_eq_zero_iff.1 (by simpa using h)
theorem varP_size {s : ByteArray} (h : varP s = true) : 1 ≤ s.size := by
 unfold varP at h
 simp only [Bool.and_eq_true, decide_eq_true_eq] at h
 exact h.1.1.1.1
theorem term_var {s : ByteArray} (h : varP s = true) : termP ⟨s, ⟨0, 0, ⟨#[]⟩⟩⟩ = true := by
 have hc : ¬ con ⟨s, ⟨0, 0, ⟨#[]⟩⟩⟩ := fun hc => by
  have h3 : s.size = 0 := (con_size _).1 hc
  have h2 := varP_size h
  omega
 unfold termP
 rw [if_neg (show ¬ s.toList = [] from hc)]
 show (varP s && _) = true
 rw [h, ne_toList]; rfl
def tX : S92 := ⟨⟨#[88]⟩, ⟨0, 0, ⟨#[]⟩⟩⟩
def v1 : S64 := ⟨1, 1, ⟨#[]⟩⟩
def nQ : ByteArray := ⟨#[113]⟩
def nR : ByteArray := ⟨#[114]⟩
def nA : ByteArray := ⟨#[97]⟩
def xQ : S62 := ⟨1, ⟨nQ, [tX]⟩, 0, 0⟩
def xO : S62 := ⟨6, ⟨⟨#[]⟩, []⟩, 0, 0⟩
def fQ : S58 := ⟨nQ, [v1]⟩
def fR : S58 := ⟨nR, [v1]⟩
def bX : S66 := ⟨⟨#[88]⟩, v1⟩
theorem name_q : nameP nQ = true := by decide +kernel
theorem name_r : nameP nR = true := by decide +kernel
theorem name_a : nameP nA = true := by decide +kernel
theorem term_X : termP tX = true := term_var (by decide +kernel)
theorem mat_q : matP nQ [tX] = 0 := mat_zero.2 ⟨name_q, by simp, fun t ht => by rw [List.mem_singleton.1 ht]; exact term_X⟩
theorem mat_r : matP nR [tX] = 0 := mat_zero.2 ⟨name_r, by simp, fun t ht => by rw [List.mem_singleton.1 ht]; exact term_X⟩
theorem val_v1 : valP v1.f0 v1.f1 v1.f2 = 0 := valP_int (by decide) (by decide)
theorem fact_q : factP nQ [v1] = 0 := fact_zero.2 ⟨name_q, by simp, fun t ht => by rw [List.mem_singleton.1 ht]; exact val_v1⟩
theorem fact_r : factP nR [v1] = 0 := fact_zero.2 ⟨name_r, by simp, fun t ht => by rw [List.mem_singleton.1 ht]; exact val_v1⟩
theorem con_X : ¬ con tX := fun h => by have := (con_size _).1 h; exact absurd this (by decide)
theorem right_bX : rightP bX = true := by unfold rightP; rw [show varP bX.f0 = true by decide +kernel, show valP bX.f1.f0 bX.f1.f1 bX.f1.f2 = 0 from valP_int (by decide) (by decide)]; rfl
theorem step_q (fr dp : List Int) : stepN xQ 0 fr dp = some (0, 1) := by
 unfold stepN
 rw [if_pos (show arms xQ.f0 = 0 by decide), if_neg]
 ·rfl
 ·rintro (h | h | h)
  ·exact h rfl
  ·exact h rfl
  ·exact h mat_q
theorem step_o : stepN xO 1 [0] [1] = some (0, 2) := by
 unfold stepN
 rw [if_neg (show ¬ arms xO.f0 = 0 by decide), if_pos (show arms xO.f0 = 1 by decide), if_neg]
 ·rfl
 ·rintro (h | h | h | h)
  ·exact absurd h (by decide)
  ·exact h rfl
  ·exact h rfl
  ·exact absurd h (by decide +kernel)
theorem chk_q : chkN [xQ] = 0 := by
 unfold chkN
 rw [if_neg (by simp)]
 simp [fromsP, step_q]
theorem chk_qo : chkN [xQ, xO] = 0 := by
 unfold chkN
 rw [if_neg (by simp)]
 simp [fromsP, step_q, step_o]
theorem tr_w : trP [fQ, fR] = 0 := by
 unfold trP
 rw [if_neg (by simp)]
 simp only [trL]
 rw [if_pos (show factP fQ.f0 fQ.f1 = 0 from fact_q), if_pos (show factP fR.f0 fR.f1 = 0 from fact_r)]
theorem chk_b : chkP [bX] = 0 := right_one right_bX
theorem vars_X : SpecM.varsL [] [tX] = [tX.f0] := by
 rw [SpecM.varsL, if_neg con_X, if_neg (by simp), List.nil_append, SpecM.varsL]
theorem varsN_q : varsN [xQ] = [tX.f0] := by unfold varsN; simp only [List.flatMap_cons, List.flatMap_nil, List.append_nil]; exact vars_X
theorem varsN_qo : varsN [xQ, xO] = [tX.f0] := by
 unfold varsN
 simp only [List.flatMap_cons, List.flatMap_nil, List.append_nil]
 rw [show SpecM.varsL [] xO.f1.f1 = [] from rfl, show SpecM.varsL [] xQ.f1.f1 = [tX.f0] from vars_X]; rfl
theorem get_X : getP [bX] tX.f0 = (1, 1, ⟨#[]⟩, true) := by rw [getP, if_pos (show bX.f0 = tX.f0 from rfl)]; rfl
theorem gr_X (a : ByteArray) (h : matP a [tX] = 0) : groundP a [tX] [bX] = (a, [v1], 0) := by
 unfold groundP
 have hg : grL [bX] [tX] = some [v1] := by
  rw [grL, if_neg con_X, get_X, if_pos rfl]; rfl
 rw [if_pos h, if_pos chk_b, hg]
theorem ev_0 : evP [fQ, fR] [bX] xQ.f1 0 = true := by
 unfold evP
 rw [show groundP xQ.f1.f0 xQ.f1.f1 [bX] = (nQ, [v1], 0) from gr_X nQ mat_q]
 decide +kernel
theorem ev_1 : evP [fQ, fR] [bX] xQ.f1 1 = false := by
 unfold evP
 rw [show groundP xQ.f1.f0 xQ.f1.f1 [bX] = (nQ, [v1], 0) from gr_X nQ mat_q]
 decide +kernel
theorem sem_q : semP (evP [fQ, fR] [bX]) [xQ] 1 = false := ev_1
theorem sem_qo : semP (evP [fQ, fR] [bX]) [xQ, xO] 1 = true := by
 have h : semP (evP [fQ, fR] [bX]) [xQ, xO] 1 = onceR (evP [fQ, fR] [bX] xQ.f1) 1 := rfl
 rw [h]
 simp [onceR, ev_0]
theorem unb_q : unbP [xQ] [bX] = false := by unfold unbP; rw [varsN_q]; simp [get_X]
theorem unb_qo : unbP [xQ, xO] [bX] = false := by unfold unbP; rw [varsN_qo]; simp [get_X]
theorem unb_no : unbP [xQ, xO] [] = true := by unfold unbP; rw [varsN_qo]; simp [getP]
theorem hE_qo : holdsE [xQ, xO] [fQ, fR] 1 [bX] = 0 := by
 unfold holdsE; rw [if_neg (by simp [chk_qo]), if_neg (by simp [tr_w]), if_neg (by simp [chk_b]), if_neg (by simp), if_neg (by simp [unb_qo])]
theorem hV_qo : holdsV [xQ, xO] [fQ, fR] 1 [bX] = true := by unfold holdsV; rw [if_pos hE_qo]; exact sem_qo
theorem hE_q : holdsE [xQ] [fQ, fR] 1 [bX] = 0 := by
 unfold holdsE; rw [if_neg (by simp [chk_q]), if_neg (by simp [tr_w]), if_neg (by simp [chk_b]), if_neg (by simp), if_neg (by simp [unb_q])]
theorem hV_q : holdsV [xQ] [fQ, fR] 1 [bX] = false := by unfold holdsV; rw [if_pos hE_q]; exact sem_q
theorem hE_no : holdsE [xQ, xO] [fQ, fR] 1 [] = 5 := by
 unfold holdsE; rw [if_neg (by simp [chk_qo]), if_neg (by simp [tr_w]), if_neg (by simp [right_nil]), if_neg (by simp), if_pos unb_no]
theorem one_r : oneP nR [tX] nR [v1] [] = ([bX], true) :=
 oneP_fit mat_r fact_r rfl rfl ⟨right_nil, right_one right_bX, fun p hp hc => by
  have : p = (tX, v1) := by simpa using hp
  subst this
  exact absurd hc con_X, fun x => by
  constructor
  ·intro h
   exact .inr ⟨(tX, v1), by simp, con_X, by rw [List.mem_singleton.1 h]; rfl⟩
  ·rintro (h | ⟨p, hp, _, rfl⟩)
   ·simp at h
   ·have : p = (tX, v1) := by simpa using hp
    subst this
    exact List.mem_singleton.2 rfl⟩
theorem fit_q : fitNs [xQ] := ⟨fun x hx => by rw [List.mem_singleton.1 hx]; exact ⟨⟨by decide, by decide⟩, by decide⟩, by decide⟩
theorem fit_qo : fitNs [xQ, xO] := ⟨fun x hx => by
 rcases List.mem_cons.1 hx with rfl | hx
 ·exact ⟨⟨by decide, by decide⟩, by decide⟩
 ·rw [List.mem_singleton.1 hx]; exact ⟨⟨by decide, by decide⟩, by decide⟩, by decide⟩
theorem fit_t : ∀ y ∈ [fQ, fR], fitF y := fun y hy => by
 rcases List.mem_cons.1 hy with rfl | hy
 ·exact ⟨by decide, by decide, by decide⟩
 ·rw [List.mem_singleton.1 hy]; exact ⟨by decide, by decide, by decide⟩
end Go.Proofs.YtghommaokdhjmaaGreat.Sat
namespace Go.Proofs.YtghommaokdhjmaaGreat.P
open Go.RowKit Go.Proofs.YtghommaokdhjmaaGreatW.PrintWords Go.Proofs.YtghommaokdhjmaaGreatW.PrintLast Gate

/-! ### constablelaw25_p: function 55 -/
def constablelaw25_p.f (a0 : ByteArray) : Option (Int × ByteArray × (List (S92)) × Int × Int) := some (1, a0, (([(⟨(⟨#[88]⟩ : ByteArray), (⟨0, 0, (⟨#[]⟩ : ByteArray)⟩ : S64)⟩ : S92)] : List (S92))), 0, 0)
set_option maxHeartbeats 8000000 in
set_option maxRecDepth 100000 in
theorem constablelaw25_p.calls (a0 : ByteArray) (r1 : Int) (r2 : ByteArray) (r3 : List (S92)) (r4 : Int) (r5 : Int) (w : World) (h : constablelaw25_p.f a0 = some (r1, r2, r3, r4, r5)) :
  Calls Tryz.prog 55 #[.string a0] w fun e w' => ∃ v2_ : Value, e = .returned (.agg #[.int .i64 r1, .string r2, v2_, .int .i64 r4, .int .i64 r5]) ∧ Kd.R k92 92 w' w.heap.size (fun _ => True) v2_ r3 ∧ Below w.heap.size w w' := by
 have hu62 := Tryz.underlying62
 have hu92 := Tryz.underlying92
 have hu25 := Tryz.underlying25
 have HB := Aside0.mk (Below.refl w.heap.size w)
 have H : (some (1, a0, (([(⟨(⟨#[88]⟩ : ByteArray), (⟨0, 0, (⟨#[]⟩ : ByteArray)⟩ : S64)⟩ : S92)] : List (S92))), 0, 0)) = some (r1, r2, r3, r4, r5) := h
 clear h
 obtain ⟨y405, hy405⟩ : ∃ y_ : List (S92), y_ = (([(⟨(⟨#[88]⟩ : ByteArray), (⟨0, 0, (⟨#[]⟩ : ByteArray)⟩ : S64)⟩ : S92)] : List (S92))) := ⟨_, rfl⟩
 replace H : (some (1, a0, y405, 0, 0)) = some (r1, r2, r3, r4, r5) := by first | (rw [hy405]; with_reducible exact H) | (have H2_ := (Option.bind_some _ _).symm.trans H; rw [hy405]; with_reducible exact H2_) | (have H2_ := (Option.bind_some _ _).symm.trans H; with_reducible exact H2_) | with_reducible exact H | (rw [hy405]; exact H) | exact H
 have Ny405 := Aside0.mk hy405
 clear hy405
 simp only [Option.some.injEq, Prod.mk.injEq] at H
 obtain ⟨rfl, rfl, rfl, rfl, rfl⟩ := H
 go_enter Tryz.func55, Tryz.ntmps55
 go_wp2_with (first | ((with_reducible refine gate_dst (N := 2) rfl ?_); refine bE (N := 2) (cs := #[.int .i64 0, .string (⟨#[]⟩ : ByteArray), .slice none 0 0, .int .i64 0, .int .i64 0]) (t := 62) ?_; intro gb404 hg w2 hbox hb; have n0_ := Aside0.mk (below_step bB0 hb); have n1_ := Aside0.mk (hbox); have n2_ := Aside0.mk ((by rw [hg]; exact (below_size bB0) : w.heap.size ≤ gb404)); have n3_ := Aside0.mk ((by rw [hg]; exact (below_size bB0) : w.heap.size ≤ gb404)); clear HB; have HB := n0_; have BK404 := n1_; have GW404 := n2_; have GE404 := n3_; clear n0_ n1_ n2_ n3_; clear hb hbox hg) | ((with_reducible refine gate_dst (N := 5) rfl ?_); refine Kd.R_lit k92 _ 92 ?hg (N := 5) ?hd (xs := ([(⟨(⟨#[88]⟩ : ByteArray), (⟨0, 0, (⟨#[]⟩ : ByteArray)⟩ : S64)⟩ : S92)] : List (S92))) (inner := [.string (⟨#[88]⟩ : ByteArray), .int .i64 0, .int .i64 0, .string (⟨#[]⟩ : ByteArray)]) (ok := fun _ => True) (okp := fun _ => True) ?hr ?hp (fun _ hk => hk) trivial (Below.refl _ _) (Nat.le_refl _) (by simp) ?_; (case hd => rfl); (case hg => rfl); (case hr => first | (go_simp; done) | (go_simp; rfl)); (case hp => exact (Reps.c4 (show Kd.M k92 _ _ _ (⟨(⟨#[88]⟩ : ByteArray), (⟨0, 0, (⟨#[]⟩ : ByteArray)⟩ : S64)⟩ : S92) [.string (⟨#[88]⟩ : ByteArray), .int .i64 0, .int .i64 0, .string (⟨#[]⟩ : ByteArray)] from (k92_mkM _ _ _ (⟨(⟨#[88]⟩ : ByteArray), (⟨0, 0, (⟨#[]⟩ : ByteArray)⟩ : S64)⟩ : S92) )) (Reps.none _ _))); intro v406 w3 ho4 hb hg_ hnew_; clear hg_ hnew_; (first | rw [← Ny405.out] at ho4 | (simp only [Int.reduceToNat] at ho4; rw [← Ny405.out] at ho4)); have n0_ := Aside0.mk (Kd.R_lower ho4 (below_size (bB1 GE404.out))); have n1_ := Aside0.mk (blk_below (g := gb404) (o := .cells #[.int .i64 0, .string (⟨#[]⟩ : ByteArray), .slice none 0 0, .int .i64 0, .int .i64 0] 62 (0, 0)) (by refine bk ?_; exact BK404.out) hb); have n2_ := Aside0.mk (below_step (bB1 GE404.out) hb); clear BK404; clear HB; have HO407 := n0_; have BK404 := n1_; have HB := n2_; clear n0_ n1_ n2_; clear hb ho4; obtain ⟨Ao5, co5, eo5⟩ := Kd.R_slice HO407.out; subst eo5; have hcz6_0 : w3.cell? ⟨gb404, 0, none⟩ = some (.int .i64 0) := (blk_cell BK404.out 0).trans rfl; have hcz6_1 : w3.cell? ⟨gb404, 1, none⟩ = some (.string (⟨#[]⟩ : ByteArray)) := (blk_cell BK404.out 1).trans rfl; have hcz6_2 : w3.cell? ⟨gb404, 2, none⟩ = some (.slice none 0 0) := (blk_cell BK404.out 2).trans rfl; have hcz6_3 : w3.cell? ⟨gb404, 3, none⟩ = some (.int .i64 0) := (blk_cell BK404.out 3).trans rfl; have hcz6_4 : w3.cell? ⟨gb404, 4, none⟩ = some (.int .i64 0) := (blk_cell BK404.out 4).trans rfl; have hfz6_0 := blk_frozen BK404.out 0; have hfz6_1 := blk_frozen BK404.out 1; have hfz6_2 := blk_frozen BK404.out 2; have hfz6_3 := blk_frozen BK404.out 3; have hfz6_4 := blk_frozen BK404.out 4))
 refine bodyPost_ret (results_cell_row rfl _ _ gb404 62 #[.int .i64 1, .string a0, .slice Ao5 y405.length co5, .int .i64 0, .int .i64 0] (0, 0) _ rfl (by refine bk ?_; refine blk_put (cs := #[.int .i64 1, .string a0, .slice Ao5 y405.length co5, .int .i64 0, .int .i64 0]) ?_ 4 _ rfl; refine bk ?_; refine blk_put (cs := #[.int .i64 1, .string a0, .slice Ao5 y405.length co5, .int .i64 0, .int .i64 0]) ?_ 3 _ rfl; refine bk ?_; refine blk_put (cs := #[.int .i64 1, .string a0, .slice none 0 0, .int .i64 0, .int .i64 0]) ?_ 2 _ rfl; refine bk ?_; refine blk_put (cs := #[.int .i64 1, .string (⟨#[]⟩ : ByteArray), .slice none 0 0, .int .i64 0, .int .i64 0]) ?_ 1 _ rfl; refine bk ?_; refine blk_put (cs := #[.int .i64 0, .string (⟨#[]⟩ : ByteArray), .slice none 0 0, .int .i64 0, .int .i64 0]) ?_ 0 _ rfl; refine bk ?_; exact BK404.out) Tryz.underlying62 rfl (by kernel_rfl)) rfl ?_
 exact ⟨_, eW, by (with_reducible repeat (first | apply Kd.R_alloc | apply Kd.R_drewN | apply Kd.R_drew)); exact Kd.R_mono (Kd.R_far (p := ⟨gb404, 4, none⟩) (Kd.R_far (p := ⟨gb404, 3, none⟩) (Kd.R_far (p := ⟨gb404, 2, none⟩) (Kd.R_far (p := ⟨gb404, 1, none⟩) (Kd.R_far (p := ⟨gb404, 0, none⟩) (Kd.R_types HO407.out BK404.out (by decide)) (fun _ hk => hk.2) (.int .i64 1)) (fun _ hk => hk.2) (.string a0)) (fun _ hk => hk.2) (.slice Ao5 y405.length co5)) (fun _ hk => hk.2) (.int .i64 0)) (fun _ hk => hk.2) (.int .i64 0)) (fun _ hk => trivial), (bB1 GE404.out)⟩

end Go.Proofs.YtghommaokdhjmaaGreat.P
/- The statements' witness, walked: it answers true. -/
namespace Go.Proofs.YtghommaokdhjmaaGreat.Sat
open Go.RowKit Go.Lib Go.Sort Go.Proofs.SymP Go.Proofs.YtghommaokdhjmaaGreatW.PrintWords P FactC IRow Frm SpecM SpecB PSat PSpec CmpF BothB SortStr Str
theorem rb {α : Type} {R : α → List Value → Prop} {size g : Nat} {ty : TypeId} {W : World} {cs : Array Value} {ps : List α} {n : Nat} (hg : W.heap[g]? = some (.cells cs ty (0, 0))) (hr : Reps R size ps cs.toList) (hn : ps.length = n) (hl : n ≤ 1000000) : ReadsRow R size W (some ⟨g, 0, none⟩) n ps := by
 subst hn
 refine ⟨rfl, by omega, fun _ => ⟨_, rfl, fun j p hj => ⟨(cs.toList.drop (j * size)).take size, ?_, hr.2 j p hj, fun i u hu => ?_⟩⟩⟩
 ·have hjl := (List.getElem?_eq_some_iff.1 hj).1
  have h1 := hr.1
  have h2 : (j + 1) * size ≤ ps.length * size := Nat.mul_le_mul_right _ hjl
  rw [Nat.add_mul, Nat.one_mul] at h2
  rw [List.length_take, List.length_drop]
  omega
 ·rw [Addr.add_lit, blk_cell hg, ← Array.getElem?_toList]
  rw [List.getElem?_take, List.getElem?_drop] at hu
  split at hu
  ·rw [Nat.zero_add]; exact hu
  ·cases hu
theorem first_row {W : World} {g n c : Nat} {x : S62} {l : List S62} (h : NRow W (some ⟨g, 0, none⟩) n c (x :: l)) : NRow W (some ⟨g, 0, none⟩) 1 c [x] := by
 have hl := h.len
 have hc := h.cap
 simp only [List.length_cons] at hl
 refine ⟨rfl, by omega, rfl, by omega, fun _ => ?_⟩
 obtain ⟨ad, e, hr⟩ := h.C.2.2 (by omega)
 refine ⟨ad, e, fun j p hj => ?_⟩
 rcases j with _ | j
 ·exact hr 0 p (by simpa using hj)
 ·simp at hj
theorem p_calls {w : World} (s : ByteArray) : Calls Tryz.prog 55 #[.string s] w fun e w' => ∃ A c, e = .returned (.agg #[.int .i64 1, .string s, .slice A 1 c, .int .i64 0, .int .i64 0]) ∧ 1 ≤ c ∧ Kd.C k92 w' A 1 [tX] ∧ Go.RowKit.Below w.heap.size w w' := by
 refine (constablelaw25_p.calls s 1 s [tX] 0 0 w rfl).mono ?_
 rintro e w' ⟨v, rfl, hR, hb⟩
 obtain ⟨A, c, rfl, h1, h2⟩ := Kd.R_reads hR
 exact ⟨A, c, rfl, h1, h2, hb⟩
theorem tC {W : World} {g : Nat} (h : W.heap[g]? = some (.cells #[.int .i64 1, .int .i64 1, .string ⟨#[]⟩] 64 (0, 0))) : Kd.C k64 W (some ⟨g, 0, none⟩) 1 [v1] := rb h (Reps.c3 (k64_mk W v1) (Reps.none _ _)) rfl (by decide)
theorem bC {W : World} {g : Nat} (h : W.heap[g]? = some (.cells #[.string ⟨#[88]⟩, .int .i64 1, .int .i64 1, .string ⟨#[]⟩] 66 (0, 0))) : BRow W (some ⟨g, 0, none⟩) 1 1 [bX] := ⟨rfl, Nat.le_refl _, rb h (Reps.c4 (k66_mk W bX) (Reps.none _ _)) rfl (by decide)⟩
theorem fC {W : World} {g g1 g2 : Nat} (h : W.heap[g]? = some (.cells #[.string ⟨#[113]⟩, .slice (some ⟨g1, 0, none⟩) 1 1, .string ⟨#[114]⟩, .slice (some ⟨g2, 0, none⟩) 1 1] 58 (0, 0))) (h1 : Kd.C k64 W (some ⟨g1, 0, none⟩) 1 [v1]) (h2 : Kd.C k64 W (some ⟨g2, 0, none⟩) 1 [v1]) : TRow W (some ⟨g, 0, none⟩) 2 2 [fQ, fR] :=
 ⟨rfl, Nat.le_refl _, rb h (Reps.c2 (k58_mk W fQ (A1 := some ⟨g1, 0, none⟩) (c1 := 1) (Nat.le_refl _) h1) (Reps.c2 (k58_mk W fR (A1 := some ⟨g2, 0, none⟩) (c1 := 1) (Nat.le_refl _) h2) (Reps.none _ _))) rfl (by decide)⟩
theorem nC {W : World} {g c : Nat} {A : Option Addr} (h : W.heap[g]? = some (.cells #[.int .i64 1, .string ⟨#[113]⟩, .slice A 1 c, .int .i64 0, .int .i64 0, .int .i64 6, .string ⟨#[]⟩, .slice none 0 0, .int .i64 0, .int .i64 0] 62 (0, 0))) (hc : 1 ≤ c) (h1 : Kd.C k92 W A 1 [tX]) : NRow W (some ⟨g, 0, none⟩) 2 2 [xQ, xO] :=
 ⟨rfl, Nat.le_refl _, rb h (Reps.c5 (k62_mk W xQ (A2 := A) (c2 := c) hc h1) (Reps.c5 (k62_mk W xO (A2 := none) (c2 := 0) (Nat.le_refl _) ⟨rfl, Nat.zero_le _, fun h => absurd (show 0 < 0 from h) (Nat.lt_irrefl 0)⟩) (Reps.none _ _))) rfl (by decide)⟩
theorem field_atom (W : World) (s : ByteArray) (A : Option Addr) (c : Nat) : (Instr.field 62 (.agg #[.int .i64 1, .string s, .slice A 1 c, .int .i64 0, .int .i64 0]) 1).run Tryz.prog W = .ok (.agg #[.string s, .slice A 1 c]) W := by kernel_rfl
theorem al1 (W : World) (a b : Obj) : ((W.alloc a).alloc b).heap[W.heap.size + 1]? = some b := by have := blk_new (W.alloc a) b; simpa using this
theorem al2 (W : World) (a b c : Obj) : (((W.alloc a).alloc b).alloc c).heap[W.heap.size + 2]? = some c := by have := blk_new ((W.alloc a).alloc b) c; simpa using this
set_option maxHeartbeats 8000000 in
set_option maxRecDepth 1000000 in
theorem wakes_calls (w : World) : Calls Tryz.prog 24 #[] w fun e w' => e = .returned (.bool true) ∧ Go.RowKit.Below w.heap.size w w' := by
 have hu1 := Tryz.underlying64
 have hu2 := Tryz.underlying58
 have hu3 := Tryz.underlying66
 have hu4 := Tryz.underlying62
 go_enter Tryz.func24, Tryz.ntmps24
 go_upto_region 2 with fail
 refine wp_world (fun V => V.cell? ⟨w.heap.size, 0, none⟩ = some (.int .i64 1) ∧ V.cell? ⟨w.heap.size, 1, none⟩ = some (.int .i64 1) ∧ V.cell? ⟨w.heap.size, 2, none⟩ = some (.string ⟨#[]⟩) ∧ Go.RowKit.Below w.heap.size w V) ⟨by simp, by simp, by simp, (Go.RowKit.Below.refl _ w).alloc (Nat.le_refl _) _⟩ ?_
 rintro w1 ⟨z0, z1, z2, hb1⟩
 have q0 := cell_al (.cells #[.int .i64 1, .int .i64 1, .string ⟨#[]⟩] 64) z0
 have q1 := cell_al (.cells #[.int .i64 1, .int .i64 1, .string ⟨#[]⟩] 64) z1
 have q2 := cell_al (.cells #[.int .i64 1, .int .i64 1, .string ⟨#[]⟩] 64) z2
 have HB1 := Aside0.mk hb1
 clear hb1
 go_upto_region 3 with fail
 have hbA : Go.RowKit.Below w1.heap.size w1 (((w1.alloc (.cells #[.int .i64 1, .int .i64 1, .string ⟨#[]⟩] 64)).alloc (.cells #[.int .i64 1, .int .i64 1, .string ⟨#[]⟩] 64)).alloc (.cells #[.string ⟨#[113]⟩, .slice (some ⟨w1.heap.size, 0, none⟩) 1 1, .string ⟨#[114]⟩, .slice (some ⟨w1.heap.size + 1, 0, none⟩) 1 1] 58)) := by repeat (first | exact Go.RowKit.Below.refl _ _ | apply below_alloc)
 refine wp_world (fun V => TRow V (some ⟨w1.heap.size + 1 + 1, 0, none⟩) 2 2 [fQ, fR] ∧ V.cell? ⟨w.heap.size, 0, none⟩ = some (.int .i64 1) ∧ V.cell? ⟨w.heap.size, 1, none⟩ = some (.int .i64 1) ∧ V.cell? ⟨w.heap.size, 2, none⟩ = some (.string ⟨#[]⟩) ∧ Go.RowKit.Below w.heap.size w V)
  ⟨fC (al2 w1 _ _ _) (tC (((((Go.RowKit.Below.refl _ (w1.alloc _)).alloc (Nat.le_refl _) _).alloc (by simp) _).block _ (by simp)).trans (blk_new w1 _))) (tC ((((Go.RowKit.Below.refl _ ((w1.alloc _).alloc _)).alloc (Nat.le_refl _) _).block _ (by simp)).trans (al1 w1 _ _))), (hbA.cell (World.block_lt_of_cell? _ _ z0)).trans z0, (hbA.cell (World.block_lt_of_cell? _ _ z1)).trans z1, (hbA.cell (World.block_lt_of_cell? _ _ z2)).trans z2, HB1.out.trans (hbA.mono HB1.out.size)⟩ ?_
 generalize w1.heap.size + 1 + 1 = gt
 clear z0 z1 z2 q0 q1 q2 hbA HB1
 rintro w2 ⟨hT, z0, z1, z2, hb2⟩
 have HT := Aside0.mk hT
 have HB2 := Aside0.mk hb2
 clear hT hb2
 go_upto_region 4 with fail
 have hbB : Go.RowKit.Below w2.heap.size w2 (w2.alloc (.cells #[.string ⟨#[88]⟩, .int .i64 1, .int .i64 1, .string ⟨#[]⟩] 66)) := (Go.RowKit.Below.refl _ w2).alloc (Nat.le_refl _) _
 refine wp_world (fun V => TRow V (some ⟨gt, 0, none⟩) 2 2 [fQ, fR] ∧ BRow V (some ⟨w2.heap.size, 0, none⟩) 1 1 [bX] ∧ Go.RowKit.Below w.heap.size w V) ⟨HT.out.below hbB, bC (blk_new w2 _), HB2.out.trans (hbB.mono HB2.out.size)⟩ ?_
 generalize w2.heap.size = gb
 clear z0 z1 z2 hbB HT HB2
 rintro w3 ⟨hT, hB, hb3⟩
 have H3 := Aside0.mk (And.intro hT (And.intro hB hb3))
 clear hT hB hb3
 go_upto_region 5 with (go_at_call 55; with_reducible refine (p_calls _).mono ?_; rintro e w4 ⟨A, c, rfl, hc, hC, hb⟩; have H4 := Aside0.mk (And.intro hc (And.intro hC hb)); clear hc hC hb)
 have hbN : Go.RowKit.Below w4.heap.size w4 (w4.alloc (.cells #[.int .i64 1, .string ⟨#[113]⟩, .slice A 1 c, .int .i64 0, .int .i64 0, .int .i64 6, .string ⟨#[]⟩, .slice none 0 0, .int .i64 0, .int .i64 0] 62)) := (Go.RowKit.Below.refl _ w4).alloc (Nat.le_refl _) _
 refine wp_world (fun V => NRow V (some ⟨w4.heap.size, 0, none⟩) 2 2 [xQ, xO] ∧ TRow V (some ⟨gt, 0, none⟩) 2 2 [fQ, fR] ∧ BRow V (some ⟨gb, 0, none⟩) 1 1 [bX] ∧ Go.RowKit.Below w.heap.size w V)
  ⟨nC (blk_new w4 _) H4.out.1 (Kd.C_below H4.out.2.1 hbN), (H3.out.1.below H4.out.2.2).below hbN, (H3.out.2.1.below H4.out.2.2).below hbN, (H3.out.2.2.trans (H4.out.2.2.mono H3.out.2.2.size)).trans (hbN.mono (Nat.le_trans H3.out.2.2.size H4.out.2.2.size))⟩ ?_
 generalize w4.heap.size = gn
 clear hbN H3 H4
 rintro w5 ⟨hN, hT, hB, hb5⟩
 have HB5 := Aside0.mk hb5
 have C1 : Aside0 (∀ W, Go.RowKit.Below w5.heap.size w5 W → Calls Tryz.prog 14 #[.slice (some ⟨gn, 0, none⟩) 2 2, .slice (some ⟨gt, 0, none⟩) 2 2, .int .i64 1, .slice (some ⟨gb, 0, none⟩) 1 1] W fun e w' => e = .returned (.tuple #[.bool true, .int .i64 0]) ∧ Go.RowKit.Below W.heap.size W w') := ⟨fun W hW => by
  have := Holds_calls (i := 1) (hN.below hW) (hT.below hW) (hB.below hW) fit_qo (by decide) fit_t (by decide) (by decide)
  rwa [hV_qo, hE_qo] at this⟩
 have C2 : Aside0 (∀ W, Go.RowKit.Below w5.heap.size w5 W → Calls Tryz.prog 14 #[.slice (some ⟨gn, 0, none⟩) 1 2, .slice (some ⟨gt, 0, none⟩) 2 2, .int .i64 1, .slice (some ⟨gb, 0, none⟩) 1 1] W fun e w' => e = .returned (.tuple #[.bool false, .int .i64 0]) ∧ Go.RowKit.Below W.heap.size W w') := ⟨fun W hW => by
  have := Holds_calls (i := 1) (first_row (hN.below hW)) (hT.below hW) (hB.below hW) fit_q (by decide) fit_t (by decide) (by decide)
  rwa [hV_q, hE_q] at this⟩
 have C3 : Aside0 (∀ W, Go.RowKit.Below w5.heap.size w5 W → Calls Tryz.prog 14 #[.slice (some ⟨gn, 0, none⟩) 2 2, .slice (some ⟨gt, 0, none⟩) 2 2, .int .i64 1, .slice none 0 0] W fun e w' => (∃ q, e = .returned (.tuple #[.bool q, .int .i64 5])) ∧ Go.RowKit.Below W.heap.size W w') := ⟨fun W hW => by
  have := Holds_calls (i := 1) (b := []) (B := none) (bn := 0) (bc := 0) (hN.below hW) (hT.below hW) ⟨rfl, Nat.le_refl _, rfl, Nat.zero_le _, fun h => absurd (show 0 < 0 from h) (Nat.lt_irrefl 0)⟩ fit_qo (by decide) fit_t (by decide) (by decide)
  rw [hE_no] at this
  exact this.mono fun e w' h => ⟨⟨_, h.1⟩, h.2⟩⟩
 have C4 : Aside0 (∀ W A c, Go.RowKit.Below w5.heap.size w5 W → 1 ≤ c → Kd.C k92 W A 1 [tX] → Calls Tryz.prog 15 #[.agg #[.string ⟨#[97]⟩, .string ⟨#[114]⟩, .slice A 1 c, .slice (some ⟨gn, 0, none⟩) 1 2], .slice (some ⟨gt, 0, none⟩) 2 2, .int .i64 1] W fun e w' => (∃ V vc, e = .returned (.tuple #[.slice V 1 vc, .bool true, .int .i64 0]) ∧ 1 ≤ vc ∧ Kd.C k66 w' V 1 [bX]) ∧ Go.RowKit.Below W.heap.size W w') := ⟨fun W A c hW hc hC => by
  have hP : PatOK W A (some ⟨gn, 0, none⟩) c 2 [xQ] nA nR [tX] := ⟨(first_row (hN.below hW)), fun x hx => by rw [List.mem_singleton.1 hx]; rfl, fit_q, chk_q, hC, hc, ⟨by decide, by decide, by decide⟩, mat_r, by decide, name_a, fun s hs => by rw [varsN_q] at hs; rw [vars_X]; exact hs⟩
  exact wrong_calls (p := 1) hP (hT.below hW) fit_t (by decide) tr_w (by decide) one_r (by decide) sem_q⟩
 have C5 : Aside0 (∀ W V vc, Go.RowKit.Below w5.heap.size w5 W → 1 ≤ vc → Kd.C k66 W V 1 [bX] → Calls Tryz.prog 20 #[.slice V 1 vc, .slice (some ⟨gb, 0, none⟩) 1 1] W fun e w' => e = .returned (.bool true) ∧ Go.RowKit.Below W.heap.size W w') := ⟨fun W V vc hW hc hC => by
  obtain ⟨k, hk⟩ := (ev_binds (a := [bX]) (by decide) [bX]).rounds
  rw [decide_eq_true rfl] at hk
  exact (constablekeep_Binds.calls k V vc [bX] (some ⟨gb, 0, none⟩) 1 [bX] true W hC hc (hB.below hW).C (Nat.le_refl _) hk).mono fun e w' h => ⟨h.1, h.2.below⟩⟩
 clear hN hT hB hb5
 have hr5 := Go.RowKit.Below.refl w5.heap.size w5
 have HR5 := Aside0.mk hr5
 clear hr5
 go_wp2_with (first
  | (go_at_call 14; with_reducible refine (C1.out _ HR5.out).mono ?_; rintro e w6 ⟨rfl, hb⟩; have HB6 := Aside0.mk (HR5.out.trans (hb.mono HR5.out.size)); clear hb C1)
  | (go_at_call 14; with_reducible refine (C2.out _ HB6.out).mono ?_; rintro e w7 ⟨rfl, hb⟩; have HB7 := Aside0.mk (HB6.out.trans (hb.mono HB6.out.size)); clear hb C2)
  | fail)
 have hfld := field_atom
 have C4' := Aside0.mk C4.out
 clear C4
 have hd7 : Go.RowKit.Below w7.heap.size w7 w7.drew := below_drew1 (Go.RowKit.Below.refl _ _)
 have HD7 := Aside0.mk (HB7.out.trans (hd7.mono HB7.out.size))
 clear hd7
 go_region_held3 (fun _ => True) (trivial)
  (first
   | (go_at_call 55; (with_reducible refine (p_calls _).mono ?_); rintro e w8 ⟨A', c', rfl, hc, hC, hb⟩; have HB8 := Aside0.mk (HD7.out.trans (hb.mono HD7.out.size)); have HC8 := Aside0.mk (And.intro hc hC); clear hc hC hb)
   | (go_at_call 15; (with_reducible refine (C4'.out _ _ _ HB8.out HC8.out.1 HC8.out.2).mono ?_); rintro e w9 ⟨⟨V, vc, rfl, hv⟩, hb⟩; have HB9 := Aside0.mk (HB8.out.trans (hb.mono HB8.out.size)); have HV9 := Aside0.mk hv; clear hv hb)
   | fail)
 all_goals (
  go_wp2_with (first
   | (go_at_call 14; with_reducible refine (C3.out _ HB9.out).mono ?_; rintro e w10 ⟨⟨q, rfl⟩, hb⟩; have HB10 := Aside0.mk (HB9.out.trans (hb.mono HB9.out.size)); have HV10 := Aside0.mk (And.intro HV9.out.1 (Kd.C_below HV9.out.2 hb)); clear hb)
   | (go_at_call 20; with_reducible refine (C5.out _ _ _ HB10.out HV10.out.1 HV10.out.2).mono ?_; rintro e w11 ⟨rfl, hb⟩; have HB11 := Aside0.mk (HB10.out.trans (hb.mono HB10.out.size)); clear hb)
   | fail)
  go_ret
  exact ⟨rfl, HB5.out.trans (HB11.out.mono HB5.out.size)⟩)
end Go.Proofs.YtghommaokdhjmaaGreat.Sat
namespace Go.Proofs.YtghommaokdhjmaaGreat.P
open Go.RowKit Go.Proofs.YtghommaokdhjmaaGreatW.PrintWords Go.Proofs.YtghommaokdhjmaaGreatW.PrintLast Gate

/-! ### constablelaw03_Many: function 30 -/
def constablelaw03_Many.l0 : Nat → List (S58) → Int → Option (Bool)
 | 0, _, _ => none
 | k + 1, x0, x3 => if x3 < (x0.length : Int) then (if 0 ≤ x3 then ((constablelaw03_Heavy.f k ((rd_T58 x0 x3).f0) ((rd_T58 x0 x3).f1)).bind fun t109 => (if t109 = true then (some true) else (constablelaw03_Many.l0 k x0 (wrap64 (x3 + 1))))) else (none)) else (some false)
def constablelaw03_Many.f (k : Nat) (l0 : List (S58)) : Option (Bool) := if (l0.length : Int) > 60 then (some true) else (constablelaw03_Many.l0 k l0 0)
theorem constablelaw03_Many.mono_l : ∀ k, (∀ y0 y1, LeO (constablelaw03_Many.l0 k y0 y1) (constablelaw03_Many.l0 (k + 1) y0 y1))
 | 0 => fun _ _ r h => by simp [constablelaw03_Many.l0] at h
 | k + 1 => by
  have ih0 := constablelaw03_Many.mono_l k
  ·intro y0 y1
   unfold constablelaw03_Many.l0
   repeat' first
   | (with_reducible exact ih0 _ _)
   | (with_reducible exact constablelaw03_Heavy.mono _ _ _)
   | (with_reducible exact LeO.refl _)
   | (with_reducible exact LeO.none _)
   | (with_reducible refine LeO.ite ?_ ?_)
   | (with_reducible refine LeO.bind ?_ (fun _ => ?_))
theorem constablelaw03_Many.mono : ∀ a0 k, LeO (constablelaw03_Many.f k a0) (constablelaw03_Many.f (k + 1) a0) := by
 intro a0 k
 have ih0 := constablelaw03_Many.mono_l k
 unfold constablelaw03_Many.f
 repeat' first
   | (with_reducible exact ih0 _ _)
   | (with_reducible exact constablelaw03_Heavy.mono _ _ _)
   | (with_reducible exact LeO.refl _)
   | (with_reducible exact LeO.none _)
   | (with_reducible refine LeO.ite ?_ ?_)
   | (with_reducible refine LeO.bind ?_ (fun _ => ?_))
set_option maxHeartbeats 8000000 in
set_option maxRecDepth 100000 in
theorem constablelaw03_Many.calls (k : Nat) (A0 : Option Addr) (c0 : Nat) (l0 : List (S58)) (r : Bool) (w : World) (hr0 : Kd.C k58 w A0 l0.length l0) (hc0 : l0.length ≤ c0) (h : constablelaw03_Many.f k l0 = some r) :
  Calls Tryz.prog 30 #[.slice A0 l0.length c0] w fun e w' => e = .returned (.bool r) ∧ Below w.heap.size w w' := by
 have hu58 := Tryz.underlying58
 have HR0 := Aside0.mk hr0
 have HC0 := Aside0.mk hc0
 clear hr0 hc0
 have HB := Aside0.mk (Below.refl w.heap.size w)
 have H : (if (l0.length : Int) > 60 then (some true) else (constablelaw03_Many.l0 k l0 0)) = some r := h
 clear h
 by_cases c2 : (l0.length : Int) > 60
 ·rw [if_pos c2] at H
  have c2b0 : decide (60 < (l0.length : Int)) = true := decide_eq_true c2
  have c2b1 : decide (60 < l0.length) = true := decide_eq_true (by omega)
  clear c2
  obtain rfl := Option.some.inj H
  go_enter Tryz.func30, Tryz.ntmps30
  go_wp2
  go_ret
  exact ⟨eW, bB0⟩
 ·rw [if_neg c2] at H
  have c2b0 : decide (60 < (l0.length : Int)) = false := decide_eq_false c2
  have c2b1 : decide (60 < l0.length) = false := decide_eq_false (by omega)
  clear c2
  have H' := Aside0.mk H
  clear H
  go_enter Tryz.func30, Tryz.ntmps30
  go_wp2
  go_loopg [3] k (fun kq v3 w' => ∃ (x3_1 : Int), v3 = .int .i64 x3_1 ∧ Aside0 (constablelaw03_Many.l0 kq l0 x3_1 = some r) ∧ Aside0 (kq ≤ k) ∧ Aside0 (Below w.heap.size w w'))
  case atStart => exact ⟨(0), (by first | rfl | (simp; done) | (simp [*]; done)), H', ⟨Nat.le_refl _⟩, ⟨bB0⟩⟩
  case round =>
   clear H'
   (try clear c2); (try clear c2b0); (try clear c2b1); (try clear p2)
   obtain ⟨x3_1, rfl, HA, HK1, HB⟩ := hrel
   cases gk with
   | zero => exact absurd HA.out (by simp [constablelaw03_Many.l0])
   | succ k1 =>
    have H := HA.out
    clear HA
    simp only [constablelaw03_Many.l0] at H
    by_cases c3 : x3_1 < (l0.length : Int)
    ·rw [if_pos c3] at H
     have c3b0 : decide (x3_1 < (l0.length : Int)) = true := decide_eq_true c3
     clear c3
     by_cases c4 : 0 ≤ x3_1
     ·rw [if_pos c4] at H
      have c4b0 : decide (0 ≤ x3_1) = true := decide_eq_true c4
      clear c4
      replace H := Option.bind_eq_some_iff.mp H
      obtain ⟨t109, A50, H⟩ := H
      replace H : (if t109 = true then (some true) else (constablelaw03_Many.l0 k1 l0 (wrap64 (x3_1 + 1)))) = some r := H
      have A5 := Aside0.mk A50
      clear A50
      by_cases c6 : t109 = true
      ·subst c6
       have H1 : (some true) = some r := by rw [if_pos rfl] at H; exact H
       clear H
       have H := H1
       clear H1
       obtain rfl := Option.some.inj H
       have p108 : 0 ≤ (x3_1 : Int) := of_decide_eq_true (by first | (with_reducible assumption) | assumption)
       have q108 : x3_1 < (l0.length : Int) := of_decide_eq_true (by first | (with_reducible assumption) | assumption)
       obtain ⟨ad108, A108_1, c108_1, e108, hx108_0, hx108_1, hl108_1, hi108_1⟩ := at_T58 HR0.out x3_1 p108 q108
       cases e108
       have HZ108_1 := Aside0.mk hx108_1
       replace hx108_0 := (HB.out.cell (World.block_lt_of_cell? w _ hx108_0)).trans hx108_0
       replace hx108_1 := (HB.out.cell (World.block_lt_of_cell? w _ hx108_1)).trans hx108_1
       have HR108_1 := Aside0.mk hi108_1
       have HC108_1 := Aside0.mk hl108_1
       clear hi108_1 hl108_1
       replace p108 := eq_true p108
       replace q108 := eq_true q108
       go_wp2_with (first | ((with_reducible refine gate_callee (f := 62) rfl ?_); refine goesL_ (some 17) rfl rfl Tryz.func62 (by kernel_rfl) rfl #[.agg #[.string ((rd_T58 l0 x3_1).f0), .slice A108_1 ((rd_T58 l0 x3_1).f1).length c108_1]] rfl aG ?_; (with_reducible refine (constablelaw03_Heavy.calls k1 ((rd_T58 l0 x3_1).f0) _ _ ((rd_T58 l0 x3_1).f1) true _ ?side1 ?side2 A5.out).mono ?_); (case side1 => exact sC (Kd.C_below HR108_1.out HB.out)); (case side2 => exact HC108_1.out); rintro e w7 ⟨rfl, hb⟩; refine ⟨_, rfl, ?_⟩; have n0_ := Aside0.mk (below_step bB0 hb); clear HB; have HB := n0_; clear n0_; (try clear hb); (try clear hb2); (try clear hk); (try clear hi)))
       go_ret
       exact ⟨eW, bB0⟩
      ·replace c6 := Bool.eq_false_iff.mpr c6
       subst c6
       have H1 : (constablelaw03_Many.l0 k1 l0 (wrap64 (x3_1 + 1))) = some r := by rw [if_neg (show ¬ (false = true) by decide)] at H; exact H
       clear H
       have H := H1
       clear H1
       have H' := Aside0.mk H
       clear H
       have p108 : 0 ≤ (x3_1 : Int) := of_decide_eq_true (by first | (with_reducible assumption) | assumption)
       have q108 : x3_1 < (l0.length : Int) := of_decide_eq_true (by first | (with_reducible assumption) | assumption)
       obtain ⟨ad108, A108_1, c108_1, e108, hx108_0, hx108_1, hl108_1, hi108_1⟩ := at_T58 HR0.out x3_1 p108 q108
       cases e108
       have HZ108_1 := Aside0.mk hx108_1
       replace hx108_0 := (HB.out.cell (World.block_lt_of_cell? w _ hx108_0)).trans hx108_0
       replace hx108_1 := (HB.out.cell (World.block_lt_of_cell? w _ hx108_1)).trans hx108_1
       have HR108_1 := Aside0.mk hi108_1
       have HC108_1 := Aside0.mk hl108_1
       clear hi108_1 hl108_1
       replace p108 := eq_true p108
       replace q108 := eq_true q108
       go_wp2_with (first | ((with_reducible refine gate_callee (f := 62) rfl ?_); refine goesL_ (some 17) rfl rfl Tryz.func62 (by kernel_rfl) rfl #[.agg #[.string ((rd_T58 l0 x3_1).f0), .slice A108_1 ((rd_T58 l0 x3_1).f1).length c108_1]] rfl aG ?_; (with_reducible refine (constablelaw03_Heavy.calls k1 ((rd_T58 l0 x3_1).f0) _ _ ((rd_T58 l0 x3_1).f1) false _ ?side1 ?side2 A5.out).mono ?_); (case side1 => exact sC (Kd.C_below HR108_1.out HB.out)); (case side2 => exact HC108_1.out); rintro e w8 ⟨rfl, hb⟩; refine ⟨_, rfl, ?_⟩; have n0_ := Aside0.mk (below_step bB0 hb); clear HB; have HB := n0_; clear n0_; (try clear hb); (try clear hb2); (try clear hk); (try clear hi)))
       go_roundg k1
       case measure => have := HK1.out; omega
       case rel => exact ⟨(wrap64 (x3_1 + 1)), (by first | rfl | (simp; done) | (simp [*]; done)), H', ⟨by have := HK1.out; omega⟩, ⟨bB0⟩⟩
     ·rw [if_neg c4] at H
      exact absurd H (by simp)
    ·rw [if_neg c3] at H
     have c3b0 : decide (x3_1 < (l0.length : Int)) = false := decide_eq_false c3
     clear c3
     obtain rfl := Option.some.inj H
     go_wp2
     go_ret
     exact ⟨eW, bB0⟩

end Go.Proofs.YtghommaokdhjmaaGreat.P
namespace Go.Proofs.YtghommaokdhjmaaGreat.P
open Go.RowKit Go.Proofs.YtghommaokdhjmaaGreatW.PrintWords Go.Proofs.YtghommaokdhjmaaGreatW.PrintLast Gate

/-! ### constablelaw25_Long: function 11 -/
def constablelaw25_Long.f (k : Nat) (l0 : List (S58)) : Option (Bool) := if (l0.length : Int) > 14 then (if (l0.length : Int) ≤ 200 then (some true) else (if (l0.length : Int) > 203 then (some true) else (if (l0.length : Int) ≤ 14 then ((constablelaw03_Many.f k l0).bind fun t110 => (some t110)) else (some false)))) else (if (l0.length : Int) > 203 then (some true) else (if (l0.length : Int) ≤ 14 then ((constablelaw03_Many.f k l0).bind fun t111 => (some t111)) else (some false)))
theorem constablelaw25_Long.mono : ∀ a0 k, LeO (constablelaw25_Long.f k a0) (constablelaw25_Long.f (k + 1) a0) := by
 intro a0 k
 unfold constablelaw25_Long.f
 repeat' first
   | (with_reducible exact constablelaw03_Many.mono _ _)
   | (with_reducible exact LeO.refl _)
   | (with_reducible exact LeO.none _)
   | (with_reducible refine LeO.ite ?_ ?_)
   | (with_reducible refine LeO.bind ?_ (fun _ => ?_))
set_option maxHeartbeats 8000000 in
set_option maxRecDepth 100000 in
theorem constablelaw25_Long.calls (k : Nat) (A0 : Option Addr) (c0 : Nat) (l0 : List (S58)) (r : Bool) (w : World) (hr0 : Kd.C k58 w A0 l0.length l0) (hc0 : l0.length ≤ c0) (h : constablelaw25_Long.f k l0 = some r) :
  Calls Tryz.prog 11 #[.slice A0 l0.length c0] w fun e w' => e = .returned (.bool r) ∧ Below w.heap.size w w' := by
 have HR0 := Aside0.mk hr0
 have HC0 := Aside0.mk hc0
 clear hr0 hc0
 have HB := Aside0.mk (Below.refl w.heap.size w)
 have H : (if (l0.length : Int) > 14 then (if (l0.length : Int) ≤ 200 then (some true) else (if (l0.length : Int) > 203 then (some true) else (if (l0.length : Int) ≤ 14 then ((constablelaw03_Many.f k l0).bind fun t110 => (some t110)) else (some false)))) else (if (l0.length : Int) > 203 then (some true) else (if (l0.length : Int) ≤ 14 then ((constablelaw03_Many.f k l0).bind fun t111 => (some t111)) else (some false)))) = some r := h
 clear h
 by_cases c2 : (l0.length : Int) > 14
 ·rw [if_pos c2] at H
  have c2b0 : decide (14 < (l0.length : Int)) = true := decide_eq_true c2
  have c2b1 : decide (14 < l0.length) = true := decide_eq_true (by omega)
  clear c2
  by_cases c3 : (l0.length : Int) ≤ 200
  ·rw [if_pos c3] at H
   have c3b0 : decide ((l0.length : Int) ≤ 200) = true := decide_eq_true c3
   have c3b1 : decide (l0.length ≤ 200) = true := decide_eq_true (by omega)
   clear c3
   obtain rfl := Option.some.inj H
   go_enter Tryz.func11, Tryz.ntmps11
   go_wp2
   go_ret
   exact ⟨eW, bB0⟩
  ·rw [if_neg c3] at H
   have c3b0 : decide ((l0.length : Int) ≤ 200) = false := decide_eq_false c3
   have c3b1 : decide (l0.length ≤ 200) = false := decide_eq_false (by omega)
   clear c3
   by_cases c4 : (l0.length : Int) > 203
   ·rw [if_pos c4] at H
    have c4b0 : decide (203 < (l0.length : Int)) = true := decide_eq_true c4
    have c4b1 : decide (203 < l0.length) = true := decide_eq_true (by omega)
    clear c4
    obtain rfl := Option.some.inj H
    go_enter Tryz.func11, Tryz.ntmps11
    go_wp2
    go_ret
    exact ⟨eW, bB0⟩
   ·rw [if_neg c4] at H
    have c4b0 : decide (203 < (l0.length : Int)) = false := decide_eq_false c4
    have c4b1 : decide (203 < l0.length) = false := decide_eq_false (by omega)
    clear c4
    by_cases c5 : (l0.length : Int) ≤ 14
    ·rw [if_pos c5] at H
     have c5b0 : decide ((l0.length : Int) ≤ 14) = true := decide_eq_true c5
     have c5b1 : decide (l0.length ≤ 14) = true := decide_eq_true (by omega)
     clear c5
     replace H := Option.bind_eq_some_iff.mp H
     obtain ⟨t110, A60, H⟩ := H
     replace H : (some t110) = some r := H
     have A6 := Aside0.mk A60
     clear A60
     obtain rfl := Option.some.inj H
     go_enter Tryz.func11, Tryz.ntmps11
     go_wp2_with (first | (go_at_call 30; (with_reducible refine (constablelaw03_Many.calls k _ _ l0 t110 _ ?side1 ?side2 A6.out).mono ?_); (case side1 => exact sC HR0.out); (case side2 => exact HC0.out); rintro e w7 ⟨rfl, hb⟩; have n0_ := Aside0.mk (below_step bB0 hb); clear HB; have HB := n0_; clear n0_; (try clear hb); (try clear hb2); (try clear hk); (try clear hi)))
     go_ret
     exact ⟨eW, bB0⟩
    ·rw [if_neg c5] at H
     have c5b0 : decide ((l0.length : Int) ≤ 14) = false := decide_eq_false c5
     have c5b1 : decide (l0.length ≤ 14) = false := decide_eq_false (by omega)
     clear c5
     obtain rfl := Option.some.inj H
     go_enter Tryz.func11, Tryz.ntmps11
     go_wp2
     go_ret
     exact ⟨eW, bB0⟩
 ·rw [if_neg c2] at H
  have c2b0 : decide (14 < (l0.length : Int)) = false := decide_eq_false c2
  have c2b1 : decide (14 < l0.length) = false := decide_eq_false (by omega)
  clear c2
  by_cases c8 : (l0.length : Int) > 203
  ·rw [if_pos c8] at H
   have c8b0 : decide (203 < (l0.length : Int)) = true := decide_eq_true c8
   have c8b1 : decide (203 < l0.length) = true := decide_eq_true (by omega)
   clear c8
   obtain rfl := Option.some.inj H
   go_enter Tryz.func11, Tryz.ntmps11
   go_wp2
   go_ret
   exact ⟨eW, bB0⟩
  ·rw [if_neg c8] at H
   have c8b0 : decide (203 < (l0.length : Int)) = false := decide_eq_false c8
   have c8b1 : decide (203 < l0.length) = false := decide_eq_false (by omega)
   clear c8
   by_cases c9 : (l0.length : Int) ≤ 14
   ·rw [if_pos c9] at H
    have c9b0 : decide ((l0.length : Int) ≤ 14) = true := decide_eq_true c9
    have c9b1 : decide (l0.length ≤ 14) = true := decide_eq_true (by omega)
    clear c9
    replace H := Option.bind_eq_some_iff.mp H
    obtain ⟨t111, A100, H⟩ := H
    replace H : (some t111) = some r := H
    have A10 := Aside0.mk A100
    clear A100
    obtain rfl := Option.some.inj H
    go_enter Tryz.func11, Tryz.ntmps11
    go_wp2_with (first | (go_at_call 30; (with_reducible refine (constablelaw03_Many.calls k _ _ l0 t111 _ ?side1 ?side2 A10.out).mono ?_); (case side1 => exact sC HR0.out); (case side2 => exact HC0.out); rintro e w11 ⟨rfl, hb⟩; have n0_ := Aside0.mk (below_step bB0 hb); clear HB; have HB := n0_; clear n0_; (try clear hb); (try clear hb2); (try clear hk); (try clear hi)))
    go_ret
    exact ⟨eW, bB0⟩
   ·rw [if_neg c9] at H
    have c9b0 : decide ((l0.length : Int) ≤ 14) = false := decide_eq_false c9
    have c9b1 : decide (l0.length ≤ 14) = false := decide_eq_false (by omega)
    clear c9
    obtain rfl := Option.some.inj H
    go_enter Tryz.func11, Tryz.ntmps11
    go_wp2
    go_ret
    exact ⟨eW, bB0⟩

end Go.Proofs.YtghommaokdhjmaaGreat.P
namespace Go.Proofs.YtghommaokdhjmaaGreat.P
open Go.RowKit Go.Proofs.YtghommaokdhjmaaGreatW.PrintWords Go.Proofs.YtghommaokdhjmaaGreatW.PrintLast Gate

/-! ### constablelaw12_Heavy: function 9 -/
def constablelaw12_Heavy.l0 : Nat → List (S62) → Int → Option (Bool)
 | 0, _, _ => none
 | k + 1, x0, x3 => if x3 < (x0.length : Int) then (if 0 ≤ x3 then ((constablelaw06_Heavy.f k ((rd_T62 x0 x3).f1.f0) ((rd_T62 x0 x3).f1.f1)).bind fun t105 => (if t105 = true then (some true) else (constablelaw12_Heavy.l0 k x0 (wrap64 (x3 + 1))))) else (none)) else (some false)
def constablelaw12_Heavy.f (k : Nat) (l0 : List (S62)) : Option (Bool) := if (l0.length : Int) > 60 then (some true) else (constablelaw12_Heavy.l0 k l0 0)
theorem constablelaw12_Heavy.mono_l : ∀ k, (∀ y0 y1, LeO (constablelaw12_Heavy.l0 k y0 y1) (constablelaw12_Heavy.l0 (k + 1) y0 y1))
 | 0 => fun _ _ r h => by simp [constablelaw12_Heavy.l0] at h
 | k + 1 => by
  have ih0 := constablelaw12_Heavy.mono_l k
  ·intro y0 y1
   unfold constablelaw12_Heavy.l0
   repeat' first
   | (with_reducible exact ih0 _ _)
   | (with_reducible exact constablelaw06_Heavy.mono _ _ _)
   | (with_reducible exact LeO.refl _)
   | (with_reducible exact LeO.none _)
   | (with_reducible refine LeO.ite ?_ ?_)
   | (with_reducible refine LeO.bind ?_ (fun _ => ?_))
theorem constablelaw12_Heavy.mono : ∀ a0 k, LeO (constablelaw12_Heavy.f k a0) (constablelaw12_Heavy.f (k + 1) a0) := by
 intro a0 k
 have ih0 := constablelaw12_Heavy.mono_l k
 unfold constablelaw12_Heavy.f
 repeat' first
   | (with_reducible exact ih0 _ _)
   | (with_reducible exact constablelaw06_Heavy.mono _ _ _)
   | (with_reducible exact LeO.refl _)
   | (with_reducible exact LeO.none _)
   | (with_reducible refine LeO.ite ?_ ?_)
   | (with_reducible refine LeO.bind ?_ (fun _ => ?_))
set_option maxHeartbeats 8000000 in
set_option maxRecDepth 100000 in
theorem constablelaw12_Heavy.calls (k : Nat) (A0 : Option Addr) (c0 : Nat) (l0 : List (S62)) (r : Bool) (w : World) (hr0 : Kd.C k62 w A0 l0.length l0) (hc0 : l0.length ≤ c0) (h : constablelaw12_Heavy.f k l0 = some r) :
  Calls Tryz.prog 9 #[.slice A0 l0.length c0] w fun e w' => e = .returned (.bool r) ∧ Below w.heap.size w w' := by
 have hu25 := Tryz.underlying25
 have HR0 := Aside0.mk hr0
 have HC0 := Aside0.mk hc0
 clear hr0 hc0
 have HB := Aside0.mk (Below.refl w.heap.size w)
 have H : (if (l0.length : Int) > 60 then (some true) else (constablelaw12_Heavy.l0 k l0 0)) = some r := h
 clear h
 by_cases c2 : (l0.length : Int) > 60
 ·rw [if_pos c2] at H
  have c2b0 : decide (60 < (l0.length : Int)) = true := decide_eq_true c2
  have c2b1 : decide (60 < l0.length) = true := decide_eq_true (by omega)
  clear c2
  obtain rfl := Option.some.inj H
  go_enter Tryz.func9, Tryz.ntmps9
  go_wp2
  go_ret
  exact ⟨eW, bB0⟩
 ·rw [if_neg c2] at H
  have c2b0 : decide (60 < (l0.length : Int)) = false := decide_eq_false c2
  have c2b1 : decide (60 < l0.length) = false := decide_eq_false (by omega)
  clear c2
  have H' := Aside0.mk H
  clear H
  go_enter Tryz.func9, Tryz.ntmps9
  go_wp2
  go_loopg [3] k (fun kq v3 w' => ∃ (x3_1 : Int), v3 = .int .i64 x3_1 ∧ Aside0 (constablelaw12_Heavy.l0 kq l0 x3_1 = some r) ∧ Aside0 (kq ≤ k) ∧ Aside0 (Below w.heap.size w w'))
  case atStart => exact ⟨(0), (by first | rfl | (simp; done) | (simp [*]; done)), H', ⟨Nat.le_refl _⟩, ⟨bB0⟩⟩
  case round =>
   clear H'
   (try clear c2); (try clear c2b0); (try clear c2b1); (try clear p2)
   obtain ⟨x3_1, rfl, HA, HK1, HB⟩ := hrel
   cases gk with
   | zero => exact absurd HA.out (by simp [constablelaw12_Heavy.l0])
   | succ k1 =>
    have H := HA.out
    clear HA
    simp only [constablelaw12_Heavy.l0] at H
    by_cases c3 : x3_1 < (l0.length : Int)
    ·rw [if_pos c3] at H
     have c3b0 : decide (x3_1 < (l0.length : Int)) = true := decide_eq_true c3
     clear c3
     by_cases c4 : 0 ≤ x3_1
     ·rw [if_pos c4] at H
      have c4b0 : decide (0 ≤ x3_1) = true := decide_eq_true c4
      clear c4
      replace H := Option.bind_eq_some_iff.mp H
      obtain ⟨t105, A50, H⟩ := H
      replace H : (if t105 = true then (some true) else (constablelaw12_Heavy.l0 k1 l0 (wrap64 (x3_1 + 1)))) = some r := H
      have A5 := Aside0.mk A50
      clear A50
      by_cases c6 : t105 = true
      ·subst c6
       have H1 : (some true) = some r := by rw [if_pos rfl] at H; exact H
       clear H
       have H := H1
       clear H1
       obtain rfl := Option.some.inj H
       have p104 : 0 ≤ (x3_1 : Int) := of_decide_eq_true (by first | (with_reducible assumption) | assumption)
       have q104 : x3_1 < (l0.length : Int) := of_decide_eq_true (by first | (with_reducible assumption) | assumption)
       obtain ⟨ad104, A104_2, c104_2, e104, hx104_0, hx104_1, hx104_2, hx104_3, hx104_4, hl104_2, hi104_2⟩ := at_T62 HR0.out x3_1 p104 q104
       cases e104
       have HZ104_2 := Aside0.mk hx104_2
       replace hx104_0 := (HB.out.cell (World.block_lt_of_cell? w _ hx104_0)).trans hx104_0
       replace hx104_1 := (HB.out.cell (World.block_lt_of_cell? w _ hx104_1)).trans hx104_1
       replace hx104_2 := (HB.out.cell (World.block_lt_of_cell? w _ hx104_2)).trans hx104_2
       replace hx104_3 := (HB.out.cell (World.block_lt_of_cell? w _ hx104_3)).trans hx104_3
       replace hx104_4 := (HB.out.cell (World.block_lt_of_cell? w _ hx104_4)).trans hx104_4
       have HR104_2 := Aside0.mk hi104_2
       have HC104_2 := Aside0.mk hl104_2
       clear hi104_2 hl104_2
       replace p104 := eq_true p104
       replace q104 := eq_true q104
       go_wp2_with (first | ((with_reducible refine gate_callee (f := 29) rfl ?_); refine goesL_ (some 18) rfl rfl Tryz.func29 (by kernel_rfl) rfl #[.agg #[.string ((rd_T62 l0 x3_1).f1.f0), .slice A104_2 ((rd_T62 l0 x3_1).f1.f1).length c104_2]] rfl aG ?_; (with_reducible refine (constablelaw06_Heavy.calls k1 ((rd_T62 l0 x3_1).f1.f0) _ _ ((rd_T62 l0 x3_1).f1.f1) true _ ?side1 ?side2 A5.out).mono ?_); (case side1 => exact sC (Kd.C_below HR104_2.out HB.out)); (case side2 => exact HC104_2.out); rintro e w7 ⟨rfl, hb⟩; refine ⟨_, rfl, ?_⟩; have n0_ := Aside0.mk (below_step bB0 hb); clear HB; have HB := n0_; clear n0_; (try clear hb); (try clear hb2); (try clear hk); (try clear hi)))
       go_ret
       exact ⟨eW, bB0⟩
      ·replace c6 := Bool.eq_false_iff.mpr c6
       subst c6
       have H1 : (constablelaw12_Heavy.l0 k1 l0 (wrap64 (x3_1 + 1))) = some r := by rw [if_neg (show ¬ (false = true) by decide)] at H; exact H
       clear H
       have H := H1
       clear H1
       have H' := Aside0.mk H
       clear H
       have p104 : 0 ≤ (x3_1 : Int) := of_decide_eq_true (by first | (with_reducible assumption) | assumption)
       have q104 : x3_1 < (l0.length : Int) := of_decide_eq_true (by first | (with_reducible assumption) | assumption)
       obtain ⟨ad104, A104_2, c104_2, e104, hx104_0, hx104_1, hx104_2, hx104_3, hx104_4, hl104_2, hi104_2⟩ := at_T62 HR0.out x3_1 p104 q104
       cases e104
       have HZ104_2 := Aside0.mk hx104_2
       replace hx104_0 := (HB.out.cell (World.block_lt_of_cell? w _ hx104_0)).trans hx104_0
       replace hx104_1 := (HB.out.cell (World.block_lt_of_cell? w _ hx104_1)).trans hx104_1
       replace hx104_2 := (HB.out.cell (World.block_lt_of_cell? w _ hx104_2)).trans hx104_2
       replace hx104_3 := (HB.out.cell (World.block_lt_of_cell? w _ hx104_3)).trans hx104_3
       replace hx104_4 := (HB.out.cell (World.block_lt_of_cell? w _ hx104_4)).trans hx104_4
       have HR104_2 := Aside0.mk hi104_2
       have HC104_2 := Aside0.mk hl104_2
       clear hi104_2 hl104_2
       replace p104 := eq_true p104
       replace q104 := eq_true q104
       go_wp2_with (first | ((with_reducible refine gate_callee (f := 29) rfl ?_); refine goesL_ (some 18) rfl rfl Tryz.func29 (by kernel_rfl) rfl #[.agg #[.string ((rd_T62 l0 x3_1).f1.f0), .slice A104_2 ((rd_T62 l0 x3_1).f1.f1).length c104_2]] rfl aG ?_; (with_reducible refine (constablelaw06_Heavy.calls k1 ((rd_T62 l0 x3_1).f1.f0) _ _ ((rd_T62 l0 x3_1).f1.f1) false _ ?side1 ?side2 A5.out).mono ?_); (case side1 => exact sC (Kd.C_below HR104_2.out HB.out)); (case side2 => exact HC104_2.out); rintro e w8 ⟨rfl, hb⟩; refine ⟨_, rfl, ?_⟩; have n0_ := Aside0.mk (below_step bB0 hb); clear HB; have HB := n0_; clear n0_; (try clear hb); (try clear hb2); (try clear hk); (try clear hi)))
       go_roundg k1
       case measure => have := HK1.out; omega
       case rel => exact ⟨(wrap64 (x3_1 + 1)), (by first | rfl | (simp; done) | (simp [*]; done)), H', ⟨by have := HK1.out; omega⟩, ⟨bB0⟩⟩
     ·rw [if_neg c4] at H
      exact absurd H (by simp)
    ·rw [if_neg c3] at H
     have c3b0 : decide (x3_1 < (l0.length : Int)) = false := decide_eq_false c3
     clear c3
     obtain rfl := Option.some.inj H
     go_wp2
     go_ret
     exact ⟨eW, bB0⟩

end Go.Proofs.YtghommaokdhjmaaGreat.P
/- The statements' guards: what they answer, and the bounds that they give. -/
namespace Go.Proofs.YtghommaokdhjmaaGreat.Sat
open Go.RowKit Go.Lib Go.Sort Go.Proofs.SymP Go.Proofs.YtghommaokdhjmaaGreatW.PrintWords P FactC IRow Frm SpecM SpecB PSat PSpec CmpF BothB SortStr Str
def smallN (x : S62) : Prop := x.f1.f0.size ≤ 200 ∧ x.f1.f1.length ≤ 20 ∧ ∀ t ∈ x.f1.f1, t.f0.size ≤ 200 ∧ t.f1.f2.size ≤ 200
theorem heavyN_loop (l : List S62) (hl : l.length ≤ 1000000) : ∀ (m i : Nat), i + m = l.length → ∃ b, Ev (fun k => constablelaw12_Heavy.l0 k l i) b ∧ (b = false → ∀ j (hj : j < l.length), i ≤ j → smallN l[j]) := by
 intro m
 induction m with
 | zero =>
  intro i h
  refine ⟨false, Ev.step (fun k => by rw [constablelaw12_Heavy.l0, if_neg (by omega)]) (Ev.now _), fun _ j hj hi => absurd hj (by omega)⟩
 | succ m ih =>
  intro i h
  have hi : i < l.length := by omega
  obtain ⟨b1, e1, k1⟩ := ev_heavyA l[i].f1.f0 l[i].f1.f1
  obtain ⟨b2, e2, k2⟩ := ih (i + 1) (by omega)
  have hw : wrap64 ((i : Int) + 1) = ((i + 1 : Nat) : Int) := by unfold wrap64; omega
  cases b1 with
  | true => exact ⟨true, Ev.step (fun k => by rw [constablelaw12_Heavy.l0, if_pos (by omega), if_pos (by omega), rd62_get hi]) (Ev.bind e1 (by simp only [if_true]; exact Ev.now _)), fun h => by cases h⟩
  | false =>
   refine ⟨b2, Ev.step (fun k => by rw [constablelaw12_Heavy.l0, if_pos (by omega), if_pos (by omega), rd62_get hi, hw]) (Ev.bind e1 (by simp only [Bool.false_eq_true, if_false]; exact e2)), fun hb j hj hij => ?_⟩
   by_cases e : j = i
   ·subst e; exact k1 rfl
   ·exact k2 hb j hj (by omega)
theorem ev_heavyN (l : List S62) : ∃ b, Ev (fun k => constablelaw12_Heavy.f k l) b ∧ (b = false → l.length ≤ 60 ∧ ∀ x ∈ l, smallN x) := by
 unfold constablelaw12_Heavy.f
 by_cases h : 60 < l.length
 ·exact ⟨true, by simp only [if_pos (show (l.length : Int) > 60 by omega)]; exact Ev.now _, fun h => by cases h⟩
 ·obtain ⟨b, e, k⟩ := heavyN_loop l (by omega) l.length 0 (by omega)
  refine ⟨b, by simp only [if_neg (show ¬ (l.length : Int) > 60 by omega)]; exact e, fun hb => ⟨by omega, fun x hx => ?_⟩⟩
  obtain ⟨j, hj, rfl⟩ := List.getElem_of_mem hx
  exact k hb j hj (by omega)
def smallF (y : S58) : Prop := y.f0.size ≤ 200 ∧ y.f1.length ≤ 20 ∧ ∀ v ∈ y.f1, v.f2.size ≤ 200
theorem many_loop (l : List S58) (hl : l.length ≤ 1000000) : ∀ (m i : Nat), i + m = l.length → ∃ b, Ev (fun k => constablelaw03_Many.l0 k l i) b ∧ (b = false → ∀ j (hj : j < l.length), i ≤ j → smallF l[j]) := by
 intro m
 induction m with
 | zero =>
  intro i h
  refine ⟨false, Ev.step (fun k => by rw [constablelaw03_Many.l0, if_neg (by omega)]) (Ev.now _), fun _ j hj hi => absurd hj (by omega)⟩
 | succ m ih =>
  intro i h
  have hi : i < l.length := by omega
  obtain ⟨b1, e1, k1⟩ := ev_heavyF l[i].f0 l[i].f1
  obtain ⟨b2, e2, k2⟩ := ih (i + 1) (by omega)
  have hw : wrap64 ((i : Int) + 1) = ((i + 1 : Nat) : Int) := by unfold wrap64; omega
  cases b1 with
  | true => exact ⟨true, Ev.step (fun k => by rw [constablelaw03_Many.l0, if_pos (by omega), if_pos (by omega), rd58_get hi]) (Ev.bind e1 (by simp only [if_true]; exact Ev.now _)), fun h => by cases h⟩
  | false =>
   refine ⟨b2, Ev.step (fun k => by rw [constablelaw03_Many.l0, if_pos (by omega), if_pos (by omega), rd58_get hi, hw]) (Ev.bind e1 (by simp only [Bool.false_eq_true, if_false]; exact e2)), fun hb j hj hij => ?_⟩
   by_cases e : j = i
   ·subst e; exact k1 rfl
   ·exact k2 hb j hj (by omega)
/-- Long's answer is false only where the trace is short and small, or just too long for the program. -/
theorem ev_long (l : List S58) : ∃ b, Ev (fun k => constablelaw25_Long.f k l) b ∧ (b = false → l.length ≤ 14 → ∀ y ∈ l, smallF y) := by
 unfold constablelaw25_Long.f
 by_cases h : 14 < l.length
 ·simp only [if_pos (show (l.length : Int) > 14 by omega)]
  by_cases h2 : l.length ≤ 200
  ·exact ⟨true, by simp only [if_pos (show (l.length : Int) ≤ 200 by omega)]; exact Ev.now _, fun h => by cases h⟩
  ·simp only [if_neg (show ¬ (l.length : Int) ≤ 200 by omega)]
   by_cases h3 : 203 < l.length
   ·exact ⟨true, by simp only [if_pos (show (l.length : Int) > 203 by omega)]; exact Ev.now _, fun h => by cases h⟩
   ·exact ⟨false, by simp only [if_neg (show ¬ (l.length : Int) > 203 by omega), if_neg (show ¬ (l.length : Int) ≤ 14 by omega)]; exact Ev.now _, fun _ h => by omega⟩
 ·obtain ⟨b, e, k⟩ := many_loop l (by omega) l.length 0 (by omega)
  refine ⟨b, ?_, fun hb _ y hy => ?_⟩
  ·simp only [if_neg (show ¬ (l.length : Int) > 14 by omega), if_neg (show ¬ (l.length : Int) > 203 by omega), if_pos (show (l.length : Int) ≤ 14 by omega)]
   refine Ev.bind ?_ (Ev.now _)
   unfold constablelaw03_Many.f
   simp only [if_neg (show ¬ (l.length : Int) > 60 by omega)]
   exact e
  ·obtain ⟨j, hj, rfl⟩ := List.getElem_of_mem hy
   exact k hb j hj (by omega)
theorem heavyB_fit {b : List S66} (h : heavyP b = false) : b.length ≤ 110 ∧ fitB b = true := by
 unfold heavyP at h
 rw [Bool.or_eq_false_iff] at h
 refine ⟨by have := h.1; simpa using this, ?_⟩
 unfold fitB
 rw [List.all_eq_true]
 intro x hx
 have := List.any_eq_false.1 h.2 x hx
 unfold heavyX at this
 simp at this ⊢
 omega
theorem fit_small {l : List S62} (h : l.length ≤ 60 ∧ ∀ x ∈ l, smallN x) : fitNs l := ⟨fun x hx => by
 obtain ⟨h1, h2, h3⟩ := h.2 x hx
 refine ⟨⟨by omega, fitT_mem.2 fun t ht => ?_⟩, by omega⟩
 have := h3 t ht
 omega, by omega⟩
theorem fitF_small {y : S58} (h : smallF y) : fitF y := by
 obtain ⟨h1, h2, h3⟩ := h
 exact ⟨by omega, fitV_mem.2 fun v hv => by have := h3 v hv; omega, by omega⟩
end Go.Proofs.YtghommaokdhjmaaGreat.Sat
