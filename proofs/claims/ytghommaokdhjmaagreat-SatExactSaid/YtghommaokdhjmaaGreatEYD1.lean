/- A part of the proof: walks of the code and plain laws, printed and by hand; no condition. -/
import Derived.Test.YtghommaokdhjmaaGreatEYC1
import Derived.Lib.QuietBelow
import Derived.BigQuiet
set_option linter.unusedVariables false
set_option linter.unusedSimpArgs false
/- sat.see: its walk: the rows of a formula's nodes, one by one. -/
namespace Go.Proofs.YtghommaokdhjmaaGreat.Sat
open Go.RowKit Go.Lib Go.Sort Go.Proofs.SymP Go.Proofs.YtghommaokdhjmaaGreatW.PrintWords P FactC IRow Frm SpecM SpecB PSat CmpF BothB
theorem holds_calls {W : World} {S gR gw m rc N n : Nat} {T B A : Option Addr} {tn tc bn bc c : Nat} {t : List S58} {b : List S66} {rows : List (Nat → Bool)} {x : S62} (h : HIn W S gR gw m rc N n T B A tn tc bn bc c t b rows x) :
  Calls Tryz.prog 67 #[.pointer (some ⟨S, 0, none⟩), .agg #[.int .i64 x.f0, .string x.f1.f0, .slice A x.f1.f1.length c, .int .i64 x.f2, .int .i64 x.f3], .slice (some ⟨gw, 0, none⟩) N N, .int .i64 (n : Int)] W fun e w' => e = .returned (.bool (rowOf (evP t b) rows x n)) ∧ Go.RowKit.Below W.heap.size W w' := by
 have hk : x.f0 = 1 ∨ x.f0 = 2 ∨ x.f0 = 3 ∨ x.f0 = 4 ∨ x.f0 = 5 ∨ x.f0 = 6 ∨ x.f0 = 7 ∨ x.f0 = 8 := by have := h.hin.2.2; omega
 rcases hk with hk | hk | hk | hk | hk | hk | hk | hk
 ·exact holds_is h hk
 ·exact holds_k2 h hk
 ·exact holds_k3 h hk
 ·exact holds_k4 h hk
 ·exact holds_k5 h hk
 ·exact holds_k6 h hk
 ·exact holds_k7 h hk
 ·exact holds_k8 h hk
theorem infoBs : (Tryz.prog.info? 104).map (fun i => (i.zero, i.size, i.bytes)) = some (some (.slice none 0 0), 1, 24) := by kernel_rfl
theorem infoBl : (Tryz.prog.info? 4).map (fun i => (i.zero, i.size, i.bytes)) = some (some (.bool false), 1, 1) := by kernel_rfl
def VRow (W : World) (b : Nat) (v : Value) (inner : List Value) : Prop := W.ownsRow b 104 1 v inner.length inner
theorem appendV {W : World} (b : Nat) (u : Value) (xs : List Value) (m : Nat) (hm : xs.length = m) (x : Value) (hx1 : x.oneCell' = true) (ad : Addr) (h : VRow W b u xs) (hx : W.cell? ad = some x) (hb : b ≤ W.heap.size) (hl : m ≤ 1000000) :
  ∃ A' c' w', (∀ ty, (Builtin.append_ #[101, 101] ty #[u, .slice (some ad) 1 1]).run Tryz.prog W = .ok (.slice A' (m + 1) c') w') ∧ VRow w' b (.slice A' (m + 1) c') (xs ++ [x]) ∧ Go.RowKit.Below b W w' ∧ W.grownBy w' u.ownBlock := by
 subst hm
 have hin := infoBs
 rcases hinf : Tryz.prog.info? 104 with _ | i
 ·rw [hinf] at hin; cases hin
 ·rw [hinf] at hin
  simp only [Option.map_some, Option.some.injEq, Prod.mk.injEq] at hin
  obtain ⟨hz, hsz, hby⟩ := hin
  have ht : Tryz.prog.underlying 101 = some (.slice 104) := Tryz.underlying101
  obtain ⟨u', w', hr, ho, hg, _, hat⟩ := run_append_own_at (P := Tryz.prog) W b 101 0 104 i _ 1 24 ht hinf hz hsz hby (by rfl) (by decide) u xs.length xs h ad 1 1 [x] rfl (fun j v hv => by
   rcases j with _ | j
   ·obtain rfl : x = v := by simpa using hv
    rw [Addr.add_zero']; exact hx
   ·simp at hv) (fun v hv => by rw [List.mem_singleton.1 hv]; exact hx1) (by unfold maxLen; omega) (by omega) hb
  obtain ⟨A', c', rfl⟩ := own_slice ho
  refine ⟨A', c', w', fun ty => hr, ?_, (Go.RowKit.Below.refl b W).grown hg hb (fun k hk => (h.lt k hk).1), hg⟩
  unfold VRow
  rw [List.length_append, List.length_singleton]
  exact ho
def RowsH (W : World) (inner : List Value) (N : Nat) (rows : List (Nat → Bool)) : Prop := ∀ z (hz : z < inner.length), ∃ g cs, inner[z] = .slice (some ⟨g, 0, none⟩) N N ∧ W.heap[g]? = some (.cells cs 4 (0, 0)) ∧ ∀ p, p < N → cs[p]? = some (.bool (rows.getD z (fun _ => false) p))
theorem RowsH.move {W W' : World} {inner : List Value} {N : Nat} {rows : List (Nat → Bool)} (h : RowsH W inner N rows) (hm : ∀ (g : Nat) (cs : Array Value), W.heap[g]? = some (.cells cs 4 (0, 0)) → W'.heap[g]? = W.heap[g]?) : RowsH W' inner N rows := fun z hz => by
 obtain ⟨g, cs, h1, h2, h3⟩ := h z hz
 exact ⟨g, cs, h1, (hm g cs h2).trans h2, h3⟩
theorem RowsH.below {W W' : World} {inner : List Value} {N : Nat} {rows : List (Nat → Bool)} (h : RowsH W inner N rows) (hb : Go.RowKit.Below W.heap.size W W') : RowsH W' inner N rows := h.move (fun g cs hg => hb.block g (blk_lt hg))
theorem VRow.below {W W' : World} {b : Nat} {v : Value} {xs : List Value} (h : VRow W b v xs) (hb : Go.RowKit.Below W.heap.size W W') : VRow W' b v xs := own_move h (fun k hk => hb.block k (own_lt h k hk))
theorem RowsH.read {W : World} {b N : Nat} {R : Option Addr} {m rc : Nat} {inner : List Value} {rows : List (Nat → Bool)} (h : RowsH W inner N rows) (hv : VRow W b (.slice R m rc) inner) (hm : inner.length = m) : ∃ gR, (0 < m → R = some ⟨gR, 0, none⟩) ∧ RowsB W gR m N rows ∧ m ≤ rc := by
 have hcap : m ≤ rc := by have := own_le hv; omega
 rcases hv.2 with ⟨e, h0⟩ | ⟨g, cap, cur, e, hb, hg, hn, hm2, hs, ht⟩
 ·exact ⟨0, fun hp => by omega, fun z hz => by omega, hcap⟩
 ·injection e with e1 e2 e3
  refine ⟨g, fun _ => e1, fun z hz => ?_, hcap⟩
  obtain ⟨g2, cs, h1, h2, h3⟩ := h z (by omega)
  refine ⟨g2, ?_, fun p hp => by rw [blk_cell h2 p]; exact h3 p hp⟩
  rw [blk_cell hg z, ← Array.getElem?_toList]
  have h4 : (cur.toList.take (inner.length * 1))[z]? = inner[z]? := by rw [ht]
  rw [List.getElem?_take_of_lt (by omega), List.getElem?_eq_getElem (by omega : z < inner.length), h1] at h4
  exact h4
theorem set_blk3 {W : World} {S ty : Nat} {a b c d : Value} (v : Value) (h : W.heap[S]? = some (.cells #[a, b, c, d] ty (0, 0))) : (W.setCell ⟨S, 3, none⟩ v).heap[S]? = some (.cells #[a, b, c, v] ty (0, 0)) := by
 simp [World.setCell, Array.getElem?_modify, h]
theorem own_bools {W : World} {b g N : Nat} {ok : Nat → Prop} {xs : List Bool} (h : Kd.R Kd.bool 4 W b ok (.slice (some ⟨g, 0, none⟩) N N) xs) (hN : xs.length = N) : ∃ cs, W.heap[g]? = some (.cells cs 4 (0, 0)) ∧ ∀ p, (hp : p < N) → cs[p]? = some (.bool (xs[p]'(by omega))) := by
 have ho := Kd.own_of_R h
 rcases ho.2 with ⟨e, h0⟩ | ⟨g', cap, cur, e, hb, hg, hn, hm2, hs, ht⟩
 ·injection e with e1; cases e1
 ·injection e with e1 e2 e3
  injection e1 with e1
  injection e1 with e1
  subst e1
  refine ⟨cur, hg, fun p hp => ?_⟩
  rw [← Array.getElem?_toList]
  have h4 : (cur.toList.take (xs.length * 1))[p]? = (encs Value.bool xs)[p]? := by rw [ht]
  rw [List.getElem?_take_of_lt (by omega)] at h4
  rw [h4]
  unfold encs
  rw [List.getElem?_map, List.getElem?_eq_getElem (by omega)]
  rfl
structure SI (w wr : World) (N j : Nat) (A T B : Option Addr) (n c tn tc bn bc : Nat) (t : List S58) (b : List S66) (l : List S62) (rv : Value) (inner : List Value) : Prop where
 blk : wr.heap[w.heap.size]? = some (.cells #[.slice A n c, .slice T tn tc, .slice B bn bc, rv] 103 (0, 0))
 v : VRow wr w.heap.size rv inner
 len : inner.length = j
 rows : RowsH wr inner N (rowsP (evP t b) (l.take j))
 bel : Go.RowKit.Below w.heap.size w wr
theorem SI.step {w wr w4 w5 : World} {N j gw : Nat} {A T B : Option Addr} {n c tn tc bn bc : Nat} {t : List S58} {b : List S66} {l : List S62} {rv u : Value} {inner : List Value} {x : S62} (h : SI w wr N j A T B n c tn tc bn bc t b l rv inner)
  (hj : j < l.length) (hx : l[j] = x) (hN : 0 < N) (hb : Go.RowKit.Below wr.heap.size wr w4) (hR : ∃ cs, w4.heap[gw]? = some (.cells cs 4 (0, 0)) ∧ ∀ p, p < N → cs[p]? = some (.bool (rowOf (evP t b) (rowsP (evP t b) (l.take j)) x p)))
  (hv : VRow w5 w.heap.size u (inner ++ [.slice (some ⟨gw, 0, none⟩) N N])) (hb5 : Go.RowKit.Below w.heap.size w4 w5) (hg : w4.grownBy w5 rv.ownBlock) :
  w5.heap[w.heap.size]? = some (.cells #[.slice A n c, .slice T tn tc, .slice B bn bc, rv] 103 (0, 0)) ∧
  SI w (w5.setCell ⟨w.heap.size, 3, none⟩ u) N (j + 1) A T B n c tn tc bn bc t b l u (inner ++ [.slice (some ⟨gw, 0, none⟩) N N]) := by
 have k1 : w4.heap[w.heap.size]? = some (.cells #[.slice A n c, .slice T tn tc, .slice B bn bc, rv] 103 (0, 0)) := (hb.block _ (blk_lt h.blk)).trans h.blk
 have far : ∀ (g : Nat) (cs : Array Value) (ty : Nat), w4.heap[g]? = some (.cells cs ty (0, 0)) → ty ≠ 104 → w5.heap[g]? = w4.heap[g]? := fun g cs ty hgc hne => hg.block g (blk_lt hgc) (fun e => by
  obtain ⟨cells, hc⟩ := own_typed (own_move h.v (fun k hk => hb.block k (own_lt h.v k hk))) g e.symm
  rw [hgc] at hc
  injection hc with hc
  injection hc with _ hc
  exact hne hc)
 have k2 := (far _ _ _ k1 (by decide)).trans k1
 refine ⟨k2, set_blk3 u k2, ?_, by simp [h.len], ?_, ?_⟩
 ·refine own_move hv (fun k hk => Go.RowKit.Below.heap_setCell w5 _ u k (fun e => ?_))
  obtain ⟨cells, hc⟩ := own_typed hv k hk
  rw [show k = w.heap.size from e, k2] at hc
  injection hc with hc
  injection hc with _ hc
  exact absurd hc (by decide)
 ·have st : ∀ (g : Nat) (cs : Array Value), w4.heap[g]? = some (.cells cs 4 (0, 0)) → (w5.setCell ⟨w.heap.size, 3, none⟩ u).heap[g]? = w4.heap[g]? := fun g cs hgc => by
   rw [Go.RowKit.Below.heap_setCell w5 _ u g (fun e => by
    rw [show g = w.heap.size from e, k1] at hgc
    injection hgc with hgc
    injection hgc with _ hgc
    exact absurd hgc (by decide))]
   exact far g cs _ hgc (by decide)
  have h4 := (h.rows.below hb).move st
  rw [List.take_succ_eq_append_getElem hj, hx, rowsP_snoc]
  intro z hz
  rw [List.length_append, List.length_singleton] at hz
  have hlen : (rowsP (evP t b) (l.take j)).length = j := by rw [rowsP_length, List.length_take]; omega
  by_cases hzj : z < inner.length
  ·obtain ⟨g, cs, q1, q2, q3⟩ := h4 z hzj
   refine ⟨g, cs, by rw [List.getElem_append_left hzj]; exact q1, q2, fun p hp => ?_⟩
   rw [q3 p hp, List.getD_eq_getElem?_getD, List.getD_eq_getElem?_getD, List.getElem?_append_left (by have := h.len; omega)]
  ·obtain ⟨cs, q1, q2⟩ := hR
   have hzl : z = inner.length := by omega
   subst hzl
   refine ⟨gw, cs, by simp, (st gw cs q1).trans q1, fun p hp => ?_⟩
   rw [q2 p hp, h.len, List.getD_eq_getElem?_getD, List.getElem?_append_right (by omega), hlen]
   simp
 ·exact below_set ((h.bel.trans (hb.mono h.bel.size)).trans hb5) (Nat.le_refl _)
def BI (w1 wi : World) (N p : Nat) (val : Nat → Bool) : Prop := ∃ xs : List Bool, xs.length = N ∧ Kd.R Kd.bool 4 wi w1.heap.size (fun _ => True) (.slice (some ⟨w1.heap.size, 0, none⟩) N N) xs ∧ (∀ q, q < p → xs[q]? = some (val q)) ∧ Go.RowKit.Below w1.heap.size w1 wi
theorem BI.start (w1 : World) (N : Nat) (val : Nat → Bool) (hN : N ≤ 1000000) : BI w1 (w1.alloc (.cells (madeCells #[.bool false] N) 4)) N 0 val :=
 ⟨List.replicate N false, by simp, by
  have h := own_made_of (enc := Value.bool) (d := false) w1 w1.heap.size 4 N (Nat.le_refl _) (by omega)
  have h2 := Kd.R_of_own (enc := Value.bool) (h1 := fun _ => rfl) (ok := fun _ => True) (by rw [List.length_replicate]; exact h) (fun _ _ => trivial)
  exact h2, fun q hq => by omega, (Go.RowKit.Below.refl _ w1).alloc (Nat.le_refl _) _⟩
theorem BI.cells {w1 wi : World} {N p : Nat} {val : Nat → Bool} (h : BI w1 wi N p val) (hp : p ≤ N) : ∃ cs, wi.heap[w1.heap.size]? = some (.cells cs 4 (0, 0)) ∧ (∀ q, q < p → cs[q]? = some (.bool (val q))) ∧ ∀ q, q < N → ∃ v, wi.cell? ⟨w1.heap.size, q, none⟩ = some v := by
 obtain ⟨xs, h1, h2, h3, _⟩ := h
 obtain ⟨cs, k1, k2⟩ := own_bools h2 h1
 refine ⟨cs, k1, fun q hq => ?_, fun q hq => ⟨_, by rw [blk_cell k1 q]; exact k2 q hq⟩⟩
 rw [k2 q (by omega)]
 have := h3 q hq
 rw [List.getElem?_eq_getElem (by omega)] at this
 rw [Option.some.inj this]
theorem BI.below {w1 wi w' : World} {N p : Nat} {val : Nat → Bool} (h : BI w1 wi N p val) (hb : Go.RowKit.Below wi.heap.size wi w') : BI w1 w' N p val := by
 obtain ⟨xs, h1, h2, h3, h4⟩ := h
 exact ⟨xs, h1, Kd.R_below h2 hb, h3, h4.trans (hb.mono h4.size)⟩
theorem BI.put {w1 wi : World} {N p : Nat} {val : Nat → Bool} (h : BI w1 wi N p val) (hp : p < N) : BI w1 (wi.setCell ⟨w1.heap.size, p, none⟩ (.bool (val p))) N (p + 1) val := by
 obtain ⟨xs, h1, h2, h3, h4⟩ := h
 subst h1
 have h5 := Kd.R_put (enc := Value.bool) (h1 := fun _ => rfl) h2 (p : Int) (val p)
 rw [Int.toNat_natCast] at h5
 refine ⟨xs.set p (val p), by simp, h5.1, fun q hq => ?_, below_set h4 (Nat.le_refl _)⟩
 by_cases hqp : q = p
 ·subst hqp; rw [List.getElem?_set_self hp]
 ·rw [List.getElem?_set_ne (fun e => hqp e.symm)]; exact h3 q (by omega)
theorem SI.hin {w wr w1 wi : World} {N j p : Nat} {T B A2 R : Option Addr} {A : Option Addr} {n c tn tc bn bc rc c2 : Nat} {t : List S58} {b : List S66} {l : List S62} {inner : List Value} {x : S62} (h : SI w wr N j A T B n c tn tc bn bc t b l (.slice R j rc) inner)
  (ht : TRow w T tn tc t) (hbr : BRow w B bn bc b) (hfb : PSpec.fitB b = true) (hft : ∀ y ∈ t, y.f1.length ≤ 1000000) (hx : (fitN x ∧ x.f1.f1.length ≤ 1000) ∧ inN x j) (hA6 : x.f1.f1.length ≤ c2 ∧ Kd.C k92 wr A2 x.f1.f1.length x.f1.f1)
  (hb1 : Go.RowKit.Below wr.heap.size wr w1) (hB : BI w1 wi N p (rowOf (evP t b) (rowsP (evP t b) (l.take j)) x)) (hp : p < N) (hpt : p < tn) (hN : N ≤ 1000000) (hj : j ≤ 100000) :
  ∃ gR, HIn wi w.heap.size gR w1.heap.size j rc N p T B A2 tn tc bn bc c2 t b (rowsP (evP t b) (l.take j)) x := by
 obtain ⟨cs, k1, k2, _⟩ := hB.cells (by omega)
 obtain ⟨xs, _, _, _, hbi⟩ := hB
 have hbw : Go.RowKit.Below wr.heap.size wr wi := hb1.trans (hbi.mono hb1.size)
 have hww : Go.RowKit.Below w.heap.size w wi := h.bel.trans (hbw.mono h.bel.size)
 have blk := (hbw.block _ (blk_lt h.blk)).trans h.blk
 obtain ⟨gR, q1, q2, q3⟩ := (h.rows.below hbw).read (h.v.below hbw) h.len
 exact ⟨gR, {
  h1 := blk_cell blk 1
  h2 := blk_cell blk 2
  h3 := fun hm => by rw [← q1 hm]; exact blk_cell blk 3
  ht := ht.below hww
  hb := hbr.below hww
  hA := Kd.C_below hA6.2 hbw
  hc := hA6.1
  hx := ⟨hx.1.1.1, hx.1.1.2, hx.1.2⟩
  hfb := hfb
  hft := hft
  hp := hpt
  hN := hp
  hN2 := hN
  hm := by omega
  hrc := q3
  hR := q2
  hcur := fun q hq => by rw [blk_cell k1 q]; exact k2 q hq
  hin := hx.2 }⟩
set_option maxHeartbeats 8000000 in
set_option maxRecDepth 1000000 in
theorem see_calls {w : World} {A T B : Option Addr} {n c tn tc bn bc i : Nat} {t : List S58} {b : List S66} {l : List S62} (hl : NRow w A n c l) (ht : TRow w T tn tc t) (hb : BRow w B bn bc b) (hf : fitNs l) (hin : inL l) (hn0 : l ≠ []) (hfb : PSpec.fitB b = true) (hft : ∀ y ∈ t, y.f1.length ≤ 1000000) (hi : i < tn) (htn : tn ≤ 1000000) :
  Calls Tryz.prog 37 #[.slice A n c, .slice T tn tc, .int .i64 (i : Int), .slice B bn bc] w fun e w' => e = .returned (.bool (semP (evP t b) l i)) ∧ Go.RowKit.Below w.heap.size w w' := by
 have hu := Tryz.underlying62
 have hu2 := Tryz.underlying103
 have hn := hl.len
 have hn1 : 1 ≤ n := by have := List.length_pos_iff.2 hn0; omega
 have hn2 : n ≤ 100000 := by have := hf.2; omega
 obtain ⟨ad, hA, _⟩ := hl.C.2.2 (by omega)
 subst hA
 have HL := Aside0.mk hl
 have HT := Aside0.mk ht
 have HBR := Aside0.mk hb
 have HF := Aside0.mk hf
 have HIN := Aside0.mk hin
 have HFB := Aside0.mk (And.intro hfb hft)
 have HN := Aside0.mk hn
 clear hl ht hb hf hin hn0 hfb hft hn
 obtain ⟨N, hNi⟩ : ∃ N, N = i + 1 := ⟨_, rfl⟩
 have hNz : (i : Int) + 1 = (N : Int) := by omega
 have kw : IntKind.i64.wrap ((i : Int) + 1) = (N : Int) := by rw [hNz]; exact kwrap (by omega) (by omega)
 have iz : (0 : Int) ≤ (i : Int) := by omega
 have iN : (i : Int) < (N : Int) := by omega
 have iN2 : i < N := by omega
 have hN1 : 0 < N := by omega
 have hN2 : N ≤ 1000000 := by omega
 have kwN : IntKind.i64.wrap (N : Int) = (N : Int) := kwrap (by omega) (by omega)
 have HNI := Aside0.mk (And.intro hNi hNz)
 clear hNi hNz
 have hmk := print_make_of (P := Tryz.prog) 104 4 (.bool false) 1 Tryz.underlying104 infoBl rfl (by decide) N (by omega)
 generalize hres : semP (evP t b) l i = res
 have HRES := Aside0.mk hres
 clear hres
 go_enter Tryz.func37, Tryz.ntmps37
 go_wp2
 go_loopg [21] n (fun gg s21 wr => ∃ (j : Nat), s21 = .int .i64 j ∧ j ≤ n ∧ n - j ≤ gg ∧ Aside0 (∃ rv inner, SI w wr N j (some ad) T B n c tn tc bn bc t b l rv inner))
 case atStart => exact ⟨0, rfl, Nat.zero_le _, Nat.le_refl _, ⟨.slice none 0 0, [], blk_new w _, own_nil _ _ _ _, rfl, fun z hz => absurd hz (by simp), (Go.RowKit.Below.refl _ w).alloc (Nat.le_refl _) _⟩⟩
 case round =>
  obtain ⟨j, rfl, hj, hg, HI⟩ := hrel
  obtain ⟨rv, inner, hI⟩ := HI.out
  clear HI
  by_cases hlt : j < n
  ·have hltz : (j : Int) < (n : Int) := by omega
   have hj2 : j < l.length := by rw [HN.out]; exact hlt
   obtain ⟨ad', A2, c2, eA, y0, y1, y2, y3, y4, y5, y6⟩ := at_T62 (Kd.C_below HL.out.C hI.bel) (j : Int) (by omega) hltz
   obtain rfl : ad = ad' := Option.some.inj eA
   rw [rd62_get hj2] at y0 y1 y2 y3 y4 y5 y6
   have HX := Aside0.mk (And.intro (HF.out.1 l[j] (List.getElem_mem hj2)) (HIN.out j hj2))
   obtain ⟨x, hx⟩ : ∃ x, x = l[j] := ⟨_, rfl⟩
   rw [← hx] at y0 y1 y2 y3 y4 y5 y6 HX
   have HXE := Aside0.mk hx.symm
   clear hx
   rw [show ((j : Int)).toNat * 5 = j * 5 by omega] at y0 y1 y2 y3 y4
   have hW : Go.RowKit.Below wr.heap.size wr (wr.alloc (.cells #[.int .i64 x.f0, .string x.f1.f0, .slice A2 x.f1.f1.length c2, .int .i64 x.f2, .int .i64 x.f3] 62)) := (Go.RowKit.Below.refl _ wr).alloc (Nat.le_refl _) _
   obtain ⟨R, rc, hrv⟩ := own_slice hI.v
   rw [hI.len] at hrv
   subst hrv
   have HI := Aside0.mk hI
   clear hI
   go_upto_region 5 with fail
   refine wp_world (fun V => V.cell? ⟨wr.heap.size, 0, none⟩ = some (.int .i64 x.f0) ∧ V.cell? ⟨wr.heap.size, 1, none⟩ = some (.string x.f1.f0) ∧ V.cell? ⟨wr.heap.size, 2, none⟩ = some (.slice A2 x.f1.f1.length c2) ∧ V.cell? ⟨wr.heap.size, 3, none⟩ = some (.int .i64 x.f2) ∧ V.cell? ⟨wr.heap.size, 4, none⟩ = some (.int .i64 x.f3) ∧ Go.RowKit.Below wr.heap.size wr V) ⟨by simp, by simp, by simp, by simp, by simp, hW⟩ ?_
   clear hW y0 y1 y2 y3 y4
   rintro w1 ⟨z0, z1, z2, z3, z4, hb1⟩
   have HB1 := Aside0.mk hb1
   clear hb1
   have HA6 := Aside0.mk (And.intro y5 y6)
   clear y5 y6
   obtain ⟨val, hval⟩ : ∃ val, val = rowOf (evP t b) (rowsP (evP t b) (l.take j)) x := ⟨_, rfl⟩
   have HVal := Aside0.mk hval
   clear hval
   go_wp2
   go_loopg [30] N (fun gg s30 wi => ∃ (p : Nat), s30 = .int .i64 p ∧ p ≤ N ∧ N - p ≤ gg ∧ Aside0 (BI w1 wi N p val))
   case atStart => exact ⟨0, rfl, Nat.zero_le _, Nat.le_refl _, ⟨BI.start w1 N val hN2⟩⟩
   case round =>
    obtain ⟨p, rfl, hp, hgp, HBI⟩ := hrel
    by_cases hpl : p < N
    ·have hplz : (p : Int) < (N : Int) := by omega
     have hC : Aside0 (Calls Tryz.prog 67 #[.pointer (some ⟨w.heap.size, 0, none⟩), .agg #[.int .i64 x.f0, .string x.f1.f0, .slice A2 x.f1.f1.length c2, .int .i64 x.f2, .int .i64 x.f3], .slice (some ⟨w1.heap.size, 0, none⟩) N N, .int .i64 (p : Int)] wr fun e w' => e = .returned (.bool (val p)) ∧ Go.RowKit.Below wr.heap.size wr w') := ⟨by
      obtain ⟨gR, hH⟩ := HI.out.hin HT.out HBR.out HFB.out.1 HFB.out.2 HX.out HA6.out HB1.out (HVal.out ▸ HBI.out) hpl (by have := HNI.out.1; omega) hN2 (by omega)
      rw [HVal.out]
      exact holds_calls hH⟩
     have hbi : Aside0 (Go.RowKit.Below w1.heap.size w1 wr ∧ Go.RowKit.Below w.heap.size w wr) := ⟨by
      obtain ⟨_, _, _, _, h4⟩ := HBI.out
      exact ⟨h4, ((HI.out.bel.trans (HB1.out.mono HI.out.bel.size)).trans (h4.mono (HI.out.bel.trans (HB1.out.mono HI.out.bel.size)).size))⟩⟩
     replace z0 := mvc hbi.out.1 z0
     replace z1 := mvc hbi.out.1 z1
     replace z2 := mvc hbi.out.1 z2
     replace z3 := mvc hbi.out.1 z3
     replace z4 := mvc hbi.out.1 z4
     go_wp2_with (go_at_call 67; with_reducible refine hC.out.mono ?_; rintro e w4 ⟨rfl, hb⟩; have HBI4 := Aside0.mk (HBI.out.below hb); obtain ⟨cs4, hcs, _, hcv⟩ := HBI4.out.cells (by omega); obtain ⟨v4, kc4⟩ := hcv p hpl; have fr4 := blk_frozen hcs p; clear hb hcs hcv)
     go_roundg (N - (p + 1))
     case measure => omega
     case rel => exact ⟨p + 1, by go_num, by omega, by omega, ⟨HBI4.out.put hpl⟩⟩
    ·have hplz : ¬ (p : Int) < (N : Int) := by omega
     obtain rfl : N = p := by omega
     obtain ⟨xs, _, _, _, h4⟩ := HBI.out
     have HBo := Aside0.mk (HB1.out.trans (h4.mono HB1.out.size))
     have HBw := Aside0.mk (HI.out.bel.trans (HBo.out.mono HI.out.bel.size))
     have blk := (HBo.out.block _ (blk_lt HI.out.blk)).trans HI.out.blk
     have k3 : wr.cell? ⟨w.heap.size, 3, none⟩ = some (.slice R j rc) := blk_cell blk 3
     have HJ := Aside0.mk hj2
     clear h4 blk
     have HAP : Aside0 (∃ A' c' w5, (∀ ty, (Builtin.append_ #[101, 101] ty #[.slice R j rc, .slice (some ⟨wr.heap.size, 0, none⟩) 1 1]).run Tryz.prog (wr.alloc (.cells #[.slice (some ⟨w1.heap.size, 0, none⟩) N N] 104)) = .ok (.slice A' (j + 1) c') w5) ∧ w5.heap[w.heap.size]? = some (.cells #[.slice (some ad) n c, .slice T tn tc, .slice B bn bc, .slice R j rc] 103 (0, 0)) ∧
       SI w (w5.setCell ⟨w.heap.size, 3, none⟩ (.slice A' (j + 1) c')) N (j + 1) (some ad) T B n c tn tc bn bc t b l (.slice A' (j + 1) c') (inner ++ [.slice (some ⟨w1.heap.size, 0, none⟩) N N])) := ⟨by
      have hal : Go.RowKit.Below wr.heap.size wr (wr.alloc (.cells #[.slice (some ⟨w1.heap.size, 0, none⟩) N N] 104)) := (Go.RowKit.Below.refl _ wr).alloc (Nat.le_refl _) _
      obtain ⟨A', c', w5, happ, hV, hb5, hg5⟩ := appendV (W := wr.alloc (.cells #[.slice (some ⟨w1.heap.size, 0, none⟩) N N] 104)) w.heap.size (.slice R j rc) inner j HI.out.len (.slice (some ⟨w1.heap.size, 0, none⟩) N N) rfl ⟨wr.heap.size, 0, none⟩ ((HI.out.v.below HBo.out).below hal) (by simp) (Nat.le_trans HBw.out.size hal.size) (by omega)
      obtain ⟨cs, q1, q2, _⟩ := HBI.out.cells (Nat.le_refl _)
      have hst := HI.out.step (gw := w1.heap.size) HJ.out HXE.out hN1 (HBo.out.trans (hal.mono HBo.out.size)) ⟨cs, (hal.block _ (blk_lt q1)).trans q1, fun q hq => by rw [← HVal.out]; exact q2 q hq⟩ hV hb5 hg5
      exact ⟨A', c', w5, happ, hst.1, hst.2⟩⟩
     go_wp2_with (first
      | (at_builtin; obtain ⟨A', c', w5, happ, hbl, hst⟩ := HAP.out; have k5 : w5.cell? ⟨w.heap.size, 3, none⟩ = some (.slice R j rc) := blk_cell hbl 3; have f5 := blk_frozen hbl 3; have HST := Aside0.mk hst; refine Lib.wpList_append_run _ (by rfl) (.tmp 46) (.tmp 48) 101 101 (by rfl) (.slice R j rc) (.slice (some ⟨wr.heap.size, 0, none⟩) 1 1) (by rfl) (by rfl) (.slice A' (j + 1) c') w5 (happ 101) ?_; clear hst hbl happ)
      | fail)
     go_roundg (n - (j + 1))
     case measure => omega
     case rel => exact ⟨j + 1, by go_num, by omega, by omega, ⟨_, _, HST.out⟩⟩
  ·have hltz : ¬ (j : Int) < (n : Int) := by omega
   obtain rfl : n = j := by omega
   obtain ⟨R, rc, hrv⟩ := own_slice hI.v
   rw [hI.len] at hrv
   subst hrv
   have kS : wr.cell? ⟨w.heap.size, 3, none⟩ = some (.slice R n rc) := blk_cell hI.blk 3
   obtain ⟨gR, q1, q2, q3⟩ := hI.rows.read hI.v hI.len
   obtain rfl := q1 (by omega)
   obtain ⟨g, g1, g2⟩ := q2 (n - 1) (by omega)
   have g3 := g2 i iN2
   rw [List.take_of_length_le (by rw [HN.out]; exact Nat.le_refl _)] at g3
   have hsem : semP (evP t b) l i = (rowsP (evP t b) l).getD (n - 1) (fun _ => false) i := by
    unfold semP getR
    rw [HN.out, show (((n : Nat) : Int) - 1).toNat = n - 1 by omega]
   rw [← hsem, HRES.out] at g3
   have HBE := Aside0.mk hI.bel
   clear hI q2 g2 hsem
   have n1z : (0 : Int) ≤ (n : Int) - 1 := by omega
   have n1y : (n : Int) - 1 < (n : Int) := by omega
   have tn1 : ((n : Int) - 1).toNat = n - 1 := by omega
   have kw2 : IntKind.i64.wrap ((n : Int) - 1) = (n : Int) - 1 := kwrap (by omega) (by omega)
   go_wp2
   go_ret
   exact ⟨rfl, HBE.out⟩
end Go.Proofs.YtghommaokdhjmaaGreat.Sat
namespace Go.Proofs.YtghommaokdhjmaaGreat.P
open Go.RowKit Go.Proofs.YtghommaokdhjmaaGreatW.PrintWords Go.Proofs.YtghommaokdhjmaaGreatW.PrintLast Gate
def trace_Check.l0 : Nat → List (S58) → Int → Int → Option (Int)
 | 0, _, _, _ => none
 | k + 1, x9, x10, x11 => if x11 < x10 then (if 0 ≤ x11 then (if x11 < (x9.length : Int) then ((fact_Check.f ((rd_T58 x9 x11).f0) ((rd_T58 x9 x11).f1)).bind fun t181 => (if t181 = 0 then (trace_Check.l0 k x9 x10 (wrap64 (x11 + 1))) else (some t181))) else (none)) else (none)) else (some 0)
def trace_Check.f (k : Nat) (l0 : List (S58)) : Option (Int) := if (l0.length : Int) > 200 then (some 2) else (trace_Check.l0 k l0 (l0.length : Int) 0)
set_option maxHeartbeats 8000000 in
set_option maxRecDepth 100000 in
theorem trace_Check.calls (k : Nat) (A0 : Option Addr) (c0 : Nat) (l0 : List (S58)) (r : Int) (w : World) (hr0 : Kd.C k58 w A0 l0.length l0) (hc0 : l0.length ≤ c0) (h : trace_Check.f k l0 = some r) :
  Calls Tryz.prog 33 #[.slice A0 l0.length c0] w fun e w' => e = .returned (.int .i64 r) ∧ Below w.heap.size w w' := by
 have hu58 := Tryz.underlying58
 have HR0 := Aside0.mk hr0
 have HC0 := Aside0.mk hc0
 clear hr0 hc0
 have HB := Aside0.mk (Below.refl w.heap.size w)
 have H : (if (l0.length : Int) > 200 then (some 2) else (trace_Check.l0 k l0 (l0.length : Int) 0)) = some r := h
 clear h
 by_cases c2 : (l0.length : Int) > 200
 ·rw [if_pos c2] at H
  have c2b0 : decide (200 < (l0.length : Int)) = true := decide_eq_true c2
  have c2b1 : decide (200 < l0.length) = true := decide_eq_true (by omega)
  clear c2
  obtain rfl := Option.some.inj H
  go_enter Tryz.func33, Tryz.ntmps33
  go_wp2
  go_ret
  exact ⟨eW, bB0⟩
 ·rw [if_neg c2] at H
  have c2b0 : decide (200 < (l0.length : Int)) = false := decide_eq_false c2
  have c2b1 : decide (200 < l0.length) = false := decide_eq_false (by omega)
  clear c2
  have H' := Aside0.mk H
  clear H
  go_enter Tryz.func33, Tryz.ntmps33
  go_wp2
  go_loopg [11] k (fun kq v11 w' => ∃ (x11_1 : Int), v11 = .int .i64 x11_1 ∧ Aside0 (trace_Check.l0 kq l0 (l0.length : Int) x11_1 = some r) ∧ Aside0 (kq ≤ k) ∧ Aside0 (Below w.heap.size w w'))
  case atStart => exact ⟨(0), (by first | rfl | (simp; done) | (simp [*]; done)), H', ⟨Nat.le_refl _⟩, ⟨bB0⟩⟩
  case round =>
   clear H'
   (try clear c2); (try clear c2b0); (try clear c2b1); (try clear p2)
   obtain ⟨x11_1, rfl, HA, HK1, HB⟩ := hrel
   cases gk with
   | zero => exact absurd HA.out (by simp [trace_Check.l0])
   | succ k1 =>
    have H := HA.out
    clear HA
    simp only [trace_Check.l0] at H
    by_cases c3 : x11_1 < (l0.length : Int)
    ·rw [if_pos c3] at H
     have c3b0 : decide (x11_1 < (l0.length : Int)) = true := decide_eq_true c3
     clear c3
     by_cases c4 : 0 ≤ x11_1
     ·rw [if_pos c4] at H
      have c4b0 : decide (0 ≤ x11_1) = true := decide_eq_true c4
      clear c4
      by_cases c5 : x11_1 < (l0.length : Int)
      ·rw [if_pos c5] at H
       have c5b0 : decide (x11_1 < (l0.length : Int)) = true := decide_eq_true c5
       clear c5
       replace H := Option.bind_eq_some_iff.mp H
       obtain ⟨t181, A60, H⟩ := H
       replace H : (if t181 = 0 then (trace_Check.l0 k1 l0 (l0.length : Int) (wrap64 (x11_1 + 1))) else (some t181)) = some r := H
       have A6 := Aside0.mk A60
       clear A60
       by_cases c7 : t181 = 0
       ·rw [if_pos c7] at H
        have c7b0 : (t181 == 0) = true := beq_iff_eq.mpr c7
        have c7b1 : (t181 != 0) = false := bne_eq_false_iff_eq.mpr c7
        clear c7
        have H' := Aside0.mk H
        clear H
        have p179 : 0 ≤ (x11_1 : Int) := of_decide_eq_true (by first | (with_reducible assumption) | assumption)
        have q179 : x11_1 < (l0.length : Int) := of_decide_eq_true (by first | (with_reducible assumption) | assumption)
        obtain ⟨ad179, A179_1, c179_1, e179, hx179_0, hx179_1, hl179_1, hi179_1⟩ := at_T58 HR0.out x11_1 p179 q179
        cases e179
        have HZ179_1 := Aside0.mk hx179_1
        replace hx179_0 := mvc HB.out hx179_0
        replace hx179_1 := mvc HB.out hx179_1
        have HR179_1 := Aside0.mk hi179_1
        have HC179_1 := Aside0.mk hl179_1
        clear hi179_1 hl179_1
        replace p179 := eq_true p179
        replace q179 := eq_true q179
        go_wp2_with (first | ((with_reducible refine gate_dst (N := 4) rfl ?_); refine bE (N := 4) (cs := #[.string (⟨#[]⟩ : ByteArray), .slice none 0 0]) (t := 58) ?_; intro gb180 hg w8 hbox hb; have n0_ := Aside0.mk (below_step bB0 hb); have n1_ := Aside0.mk (hbox); have n2_ := Aside0.mk ((by rw [hg]; exact (below_size bB0) : w.heap.size ≤ gb180)); have n3_ := Aside0.mk ((by rw [hg]; exact (below_size bB0) : w.heap.size ≤ gb180)); clear HB; have HB := n0_; have BK180 := n1_; have GW180 := n2_; have GE180 := n3_; clear n0_ n1_ n2_ n3_; clear hb hbox hg; have hcz9_0 : w8.cell? ⟨gb180, 0, none⟩ = some (.string (⟨#[]⟩ : ByteArray)) := (blk_cell BK180.out 0).trans rfl; have hcz9_1 : w8.cell? ⟨gb180, 1, none⟩ = some (.slice none 0 0) := (blk_cell BK180.out 1).trans rfl; have hfz9_0 := blk_frozen BK180.out 0; have hfz9_1 := blk_frozen BK180.out 1) | ((with_reducible refine gate_callee (f := 59) rfl ?_); refine goesL_ (some 16) rfl rfl Tryz.func59 (by kernel_rfl) rfl #[.agg #[.string ((rd_T58 l0 x11_1).f0), .slice A179_1 ((rd_T58 l0 x11_1).f1).length c179_1]] rfl aG ?_; (with_reducible refine (fact_Check.calls ((rd_T58 l0 x11_1).f0) _ _ ((rd_T58 l0 x11_1).f1) t181 _ ?side1 ?side2 A6.out).mono ?_); (case side1 => exact Kd.C_below HR179_1.out (bB1 GE180.out)); (case side2 => exact HC179_1.out); rintro e w10 ⟨rfl, hb⟩; refine ⟨_, rfl, ?_⟩; have n0_ := Aside0.mk (blk_below (g := gb180) (o := .cells #[.string ((rd_T58 l0 x11_1).f0), .slice A179_1 ((rd_T58 l0 x11_1).f1).length c179_1] 58 (0, 0)) (by refine bk ?_; refine blk_put (cs := #[.string ((rd_T58 l0 x11_1).f0), .slice none 0 0]) ?_ 1 _ rfl; refine bk ?_; refine blk_put (cs := #[.string (⟨#[]⟩ : ByteArray), .slice none 0 0]) ?_ 0 _ rfl; refine bk ?_; exact BK180.out) hb); have n1_ := Aside0.mk (below_step (bB1 GE180.out) hb); clear BK180; clear HB; have BK180 := n0_; have HB := n1_; clear n0_ n1_; (try clear hb); (try clear hb2); (try clear hk); (try clear hi)))
        go_roundg k1
        case measure => have := HK1.out; omega
        case rel => exact ⟨(wrap64 (x11_1 + 1)), (by first | rfl | (simp; done) | (simp [*]; done)), H', ⟨by have := HK1.out; omega⟩, ⟨(bB1 GE180.out)⟩⟩
       ·rw [if_neg c7] at H
        have c7b0 : (t181 == 0) = false := beq_eq_false_iff_ne.mpr c7
        have c7b1 : (t181 != 0) = true := bne_iff_ne.mpr c7
        obtain rfl := Option.some.inj H
        have p179 : 0 ≤ (x11_1 : Int) := of_decide_eq_true (by first | (with_reducible assumption) | assumption)
        have q179 : x11_1 < (l0.length : Int) := of_decide_eq_true (by first | (with_reducible assumption) | assumption)
        obtain ⟨ad179, A179_1, c179_1, e179, hx179_0, hx179_1, hl179_1, hi179_1⟩ := at_T58 HR0.out x11_1 p179 q179
        cases e179
        have HZ179_1 := Aside0.mk hx179_1
        replace hx179_0 := mvc HB.out hx179_0
        replace hx179_1 := mvc HB.out hx179_1
        have HR179_1 := Aside0.mk hi179_1
        have HC179_1 := Aside0.mk hl179_1
        clear hi179_1 hl179_1
        replace p179 := eq_true p179
        replace q179 := eq_true q179
        go_wp2_with (first | ((with_reducible refine gate_dst (N := 4) rfl ?_); refine bE (N := 4) (cs := #[.string (⟨#[]⟩ : ByteArray), .slice none 0 0]) (t := 58) ?_; intro gb180 hg w11 hbox hb; have n0_ := Aside0.mk (below_step bB0 hb); have n1_ := Aside0.mk (hbox); have n2_ := Aside0.mk ((by rw [hg]; exact (below_size bB0) : w.heap.size ≤ gb180)); have n3_ := Aside0.mk ((by rw [hg]; exact (below_size bB0) : w.heap.size ≤ gb180)); clear HB; have HB := n0_; have BK180 := n1_; have GW180 := n2_; have GE180 := n3_; clear n0_ n1_ n2_ n3_; clear hb hbox hg; have hcz12_0 : w11.cell? ⟨gb180, 0, none⟩ = some (.string (⟨#[]⟩ : ByteArray)) := (blk_cell BK180.out 0).trans rfl; have hcz12_1 : w11.cell? ⟨gb180, 1, none⟩ = some (.slice none 0 0) := (blk_cell BK180.out 1).trans rfl; have hfz12_0 := blk_frozen BK180.out 0; have hfz12_1 := blk_frozen BK180.out 1) | ((with_reducible refine gate_callee (f := 59) rfl ?_); refine goesL_ (some 16) rfl rfl Tryz.func59 (by kernel_rfl) rfl #[.agg #[.string ((rd_T58 l0 x11_1).f0), .slice A179_1 ((rd_T58 l0 x11_1).f1).length c179_1]] rfl aG ?_; (with_reducible refine (fact_Check.calls ((rd_T58 l0 x11_1).f0) _ _ ((rd_T58 l0 x11_1).f1) t181 _ ?side1 ?side2 A6.out).mono ?_); (case side1 => exact Kd.C_below HR179_1.out (bB1 GE180.out)); (case side2 => exact HC179_1.out); rintro e w13 ⟨rfl, hb⟩; refine ⟨_, rfl, ?_⟩; have n0_ := Aside0.mk (blk_below (g := gb180) (o := .cells #[.string ((rd_T58 l0 x11_1).f0), .slice A179_1 ((rd_T58 l0 x11_1).f1).length c179_1] 58 (0, 0)) (by refine bk ?_; refine blk_put (cs := #[.string ((rd_T58 l0 x11_1).f0), .slice none 0 0]) ?_ 1 _ rfl; refine bk ?_; refine blk_put (cs := #[.string (⟨#[]⟩ : ByteArray), .slice none 0 0]) ?_ 0 _ rfl; refine bk ?_; exact BK180.out) hb); have n1_ := Aside0.mk (below_step (bB1 GE180.out) hb); clear BK180; clear HB; have BK180 := n0_; have HB := n1_; clear n0_ n1_; (try clear hb); (try clear hb2); (try clear hk); (try clear hi)))
        go_ret
        exact ⟨eW, (bB1 GE180.out)⟩
      ·rw [if_neg c5] at H
       exact absurd H (by simp)
     ·rw [if_neg c4] at H
      exact absurd H (by simp)
    ·rw [if_neg c3] at H
     have c3b0 : decide (x11_1 < (l0.length : Int)) = false := decide_eq_false c3
     clear c3
     obtain rfl := Option.some.inj H
     go_wp2
     go_ret
     exact ⟨eW, bB0⟩
end Go.Proofs.YtghommaokdhjmaaGreat.P
/- sat.Holds: its walk, and what it answers as a plain function. -/
namespace Go.Proofs.YtghommaokdhjmaaGreat.Sat
open Go.RowKit Go.Lib Go.Sort Go.Proofs.SymP Go.Proofs.YtghommaokdhjmaaGreatW.PrintWords P FactC IRow Frm SpecM SpecB PSat PSpec CmpF BothB SortStr Str
def trL : List S58 → Int
 | [] => 0
 | f :: l => if factP f.f0 f.f1 = 0 then trL l else factP f.f0 f.f1
def trP (l : List S58) : Int := if 200 < l.length then 2 else trL l
def fitF (y : S58) : Prop := y.f0.size ≤ 1000000 ∧ fitV y.f1 = true ∧ y.f1.length ≤ 1000000
theorem rd58_get {l : List S58} {i : Nat} (hi : i < l.length) : rd_T58 l (i : Int) = l[i] := by
 unfold rd_T58
 rw [Int.toNat_natCast, List.getD_eq_getElem?_getD, List.getElem?_eq_getElem hi]; rfl
theorem trace_loop (l : List S58) (hf : ∀ y ∈ l, fitF y) (hl : l.length ≤ 1000000) : ∀ (m i : Nat), i + m = l.length → Ev (fun k => trace_Check.l0 k l (l.length : Int) i) (trL (l.drop i)) := by
 intro m
 induction m with
 | zero =>
  intro i h
  refine Ev.step (fun k => by rw [trace_Check.l0, if_neg (by omega)]) ?_
  rw [List.drop_eq_nil_of_le (by omega)]
  exact Ev.now _
 | succ m ih =>
  intro i h
  have hi : i < l.length := by omega
  have hy := hf l[i] (List.getElem_mem hi)
  refine Ev.step (fun k => by rw [trace_Check.l0, if_pos (by omega), if_pos (by omega), if_pos (by omega), rd58_get hi, fact_Check.f, if_pos ⟨hy.1, hy.2.1⟩, Option.bind_some, show wrap64 ((i : Int) + 1) = ((i + 1 : Nat) : Int) by unfold wrap64; omega]) ?_
  rw [List.drop_eq_getElem_cons hi, trL]
  by_cases e : factP l[i].f0 l[i].f1 = 0
  ·simp only [if_pos e]; exact ih (i + 1) (by omega)
  ·simp only [if_neg e]; exact Ev.now _
theorem ev_trace {l : List S58} (hf : ∀ y ∈ l, fitF y) (hl : l.length ≤ 1000000) : Ev (fun k => trace_Check.f k l) (trP l) := by
 unfold trace_Check.f trP
 by_cases h : 200 < l.length
 ·rw [if_pos h]; simp only [if_pos (show (l.length : Int) > 200 by omega)]; exact Ev.now _
 ·rw [if_neg h]; simp only [if_neg (show ¬ (l.length : Int) > 200 by omega)]
  exact trace_loop l hf hl l.length 0 (by omega)
def unbP (l : List S62) (b : List S66) : Bool := (varsN l).any fun s => !(getP b s).2.2.2
def holdsE (l : List S62) (t : List S58) (i : Int) (b : List S66) : Int :=
 if chkN l ≠ 0 then chkN l else if trP t ≠ 0 then trP t else if chkP b ≠ 0 then chkP b else if i < 0 ∨ (t.length : Int) ≤ i then 1 else if unbP l b = true then 5 else 0
def holdsV (l : List S62) (t : List S58) (i : Int) (b : List S66) : Bool := if holdsE l t i b = 0 then semP (evP t b) l i.toNat else false
set_option maxHeartbeats 8000000 in
set_option maxRecDepth 1000000 in
theorem Holds_calls {w : World} {A T B : Option Addr} {n c tn tc bn bc : Nat} {i : Int} {t : List S58} {b : List S66} {l : List S62} (hl : NRow w A n c l) (ht : TRow w T tn tc t) (hb : BRow w B bn bc b) (hf : fitNs l) (hfb : fitB b = true) (hft : ∀ y ∈ t, fitF y) (htn : tn ≤ 1000000) (hbn : bn ≤ 1000000) :
  Calls Tryz.prog 14 #[.slice A n c, .slice T tn tc, .int .i64 i, .slice B bn bc] w fun e w' => e = .returned (.tuple #[.bool (holdsV l t i b), .int .i64 (holdsE l t i b)]) ∧ Go.RowKit.Below w.heap.size w w' := by
 have H1 : Aside0 (Calls Tryz.prog 32 #[.slice A n c] w fun e w' => e = .returned (.int .i64 (chkN l)) ∧ Go.RowKit.Below w.heap.size w w') := ⟨check_calls hl hf⟩
 have H2 : Aside0 (∀ W, Go.RowKit.Below w.heap.size w W → Calls Tryz.prog 33 #[.slice T tn tc] W fun e w' => e = .returned (.int .i64 (trP t)) ∧ Go.RowKit.Below W.heap.size W w') := ⟨fun W hW => by
  have h := ht.below hW
  obtain rfl := ht.len
  obtain ⟨k, hk⟩ := (ev_trace hft htn).rounds
  exact trace_Check.calls k T tc t _ W h.C h.cap hk⟩
 have H3 : Aside0 (∀ W, Go.RowKit.Below w.heap.size w W → Calls Tryz.prog 34 #[.slice B bn bc] W fun e w' => e = .returned (.int .i64 (chkP b)) ∧ Go.RowKit.Below W.heap.size W w') := ⟨fun W hW => by
  have h := hb.below hW
  obtain rfl := hb.len
  exact PSpec.chk_calls B bc b W h.C h.cap hfb⟩
 have htl := ht.len
 have HN := Aside0.mk (And.intro hl (And.intro ht hb))
 have HF := Aside0.mk (And.intro hf (And.intro hfb (And.intro hft (And.intro htn hbn))))
 have HK := Aside0.mk (rfl : chkN l = chkN l)
 clear HK hl ht hb hf hfb hft
 by_cases e1 : chkN l = 0
 ·by_cases e2 : trP t = 0
  ·by_cases e3 : chkP b = 0
   ·by_cases hi : i < 0 ∨ (tn : Int) ≤ i
    ·have hE : holdsE l t i b = 1 := by unfold holdsE; rw [if_neg (by simp [e1]), if_neg (by simp [e2]), if_neg (by simp [e3]), if_pos (by rw [htl]; exact hi)]
     have hV : holdsV l t i b = false := by unfold holdsV; rw [hE]; rfl
     rw [hE, hV]
     rw [e1] at H1
     rw [e2] at H2
     rw [e3] at H3
     clear hE hV e1 e2 e3 HN HF htl
     by_cases h0 : i < 0
     ·have d0 : decide (i < 0) = true := decide_eq_true h0
      clear hi
      go_enter Tryz.func14, Tryz.ntmps14
      go_wp2_with (first
       | (go_at_call 32; with_reducible refine H1.out.mono ?_; rintro e w1 ⟨rfl, hb⟩; have HB1 := Aside0.mk hb; clear hb)
       | (go_at_call 33; with_reducible refine (H2.out _ HB1.out).mono ?_; rintro e w2 ⟨rfl, hb⟩; have HB2 := Aside0.mk (HB1.out.trans (hb.mono HB1.out.size)); clear hb)
       | (go_at_call 34; with_reducible refine (H3.out _ HB2.out).mono ?_; rintro e w3 ⟨rfl, hb⟩; have HB3 := Aside0.mk (HB2.out.trans (hb.mono HB2.out.size)); clear hb)
       | fail)
      go_ret2
      exact ⟨rfl, HB3.out⟩
     ·have d0 : decide (i < 0) = false := decide_eq_false h0
      have d1 : decide ((tn : Int) ≤ i) = true := decide_eq_true (by omega)
      clear hi
      go_enter Tryz.func14, Tryz.ntmps14
      go_wp2_with (first
       | (go_at_call 32; with_reducible refine H1.out.mono ?_; rintro e w1 ⟨rfl, hb⟩; have HB1 := Aside0.mk hb; clear hb)
       | (go_at_call 33; with_reducible refine (H2.out _ HB1.out).mono ?_; rintro e w2 ⟨rfl, hb⟩; have HB2 := Aside0.mk (HB1.out.trans (hb.mono HB1.out.size)); clear hb)
       | (go_at_call 34; with_reducible refine (H3.out _ HB2.out).mono ?_; rintro e w3 ⟨rfl, hb⟩; have HB3 := Aside0.mk (HB2.out.trans (hb.mono HB2.out.size)); clear hb)
       | fail)
      go_ret2
      exact ⟨rfl, HB3.out⟩
    ·obtain ⟨p, hp⟩ : ∃ p : Nat, i = (p : Int) := ⟨i.toNat, by omega⟩
     subst hp
     have hpt : p < tn := by omega
     have d0 : decide ((p : Int) < 0) = false := decide_eq_false (by omega)
     have d0' : ¬ (p : Int) < 0 := by omega
     have d1 : decide ((tn : Int) ≤ (p : Int)) = false := decide_eq_false (by omega)
     obtain ⟨hin, hn0, hn40⟩ := chk_inL e1
     have hn1 := List.length_pos_iff.2 hn0
     rw [HN.out.1.len] at hn1 hn40
     have hE : holdsE l t (p : Int) b = if unbP l b = true then 5 else 0 := by unfold holdsE; rw [if_neg (by simp [e1]), if_neg (by simp [e2]), if_neg (by simp [e3]), if_neg (by rw [htl]; exact hi)]
     have hV : holdsV l t (p : Int) b = if unbP l b = true then false else semP (evP t b) l p := by
      unfold holdsV
      rw [hE]
      cases unbP l b <;> rfl
     have H4 : Aside0 (∀ W, Go.RowKit.Below w.heap.size w W → Calls Tryz.prog 35 #[.slice A n c, .int .i64 ((n : Int) - 1)] W fun e w' => (∃ (u : Value) (ts : List (List UInt8)), e = .returned u ∧ (∀ x, x ∈ ts ↔ x ∈ (varsN l).map (·.data.toList)) ∧ ts.length ≤ 1000000 ∧ w'.ownsRow W.heap.size 9 1 u ts.length (ts.map encStr)) ∧ Go.RowKit.Below W.heap.size W w') := ⟨fun W hW => safeVars_calls (HN.out.1.below hW) HF.out.1 e1⟩
     have H5 : Aside0 (∀ W, Go.RowKit.Below w.heap.size w W → Calls Tryz.prog 37 #[.slice A n c, .slice T tn tc, .int .i64 (p : Int), .slice B bn bc] W fun e w' => e = .returned (.bool (semP (evP t b) l p)) ∧ Go.RowKit.Below W.heap.size W w') := ⟨fun W hW => see_calls (HN.out.1.below hW) (HN.out.2.1.below hW) (HN.out.2.2.below hW) HF.out.1 hin hn0 HF.out.2.1 (fun y hy => (HF.out.2.2.1 y hy).2.2) hpt HF.out.2.2.2.1⟩
     have H6 : Aside0 (∀ W s, Go.RowKit.Below w.heap.size w W → Calls Tryz.prog 36 #[.slice B bn bc, .string s] W fun e w' => e = .returned (.tuple #[.agg #[.int .i64 (getP b s).1, .int .i64 (getP b s).2.1, .string (getP b s).2.2.1], .bool (getP b s).2.2.2]) ∧ Go.RowKit.Below W.heap.size W w') := ⟨fun W s hW => by
      have h := HN.out.2.2.below hW
      have hl := HF.out.2.2.2.2
      obtain rfl := HN.out.2.2.len
      obtain ⟨k, hk⟩ := (ev_get hl s).rounds
      exact subst_Get.calls k B bc b s _ _ _ _ W h.C h.cap hk⟩
     rw [hE, hV]
     rw [e1] at H1
     rw [e2] at H2
     rw [e3] at H3
     generalize semP (evP t b) l p = res at H5 ⊢
     have HU : Aside0 (∀ ts : List (List UInt8), (∀ x, x ∈ ts ↔ x ∈ (varsN l).map (·.data.toList)) → ((∃ x ∈ ts, (getP b ⟨x.toArray⟩).2.2.2 = false) → unbP l b = true) ∧ ((∀ x ∈ ts, (getP b ⟨x.toArray⟩).2.2.2 = true) → unbP l b = false)) := ⟨fun ts hts => by
      constructor
      ·rintro ⟨x, hx, hg⟩
       obtain ⟨s, hs, rfl⟩ := List.mem_map.1 ((hts x).1 hx)
       unfold unbP
       rw [List.any_eq_true]
       exact ⟨s, hs, by simpa using hg⟩
      ·intro h
       unfold unbP
       rw [List.any_eq_false]
       intro s hs
       have := h s.data.toList ((hts _).2 (List.mem_map.2 ⟨s, hs, rfl⟩))
       simpa using this⟩
     generalize unbP l b = ub at HU ⊢
     clear hE hV e1 e2 e3 HN HF htl hin hn0
     have kwn : IntKind.i64.wrap ((n : Int) - 1) = (n : Int) - 1 := kwrap (by omega) (by omega)
     go_enter Tryz.func14, Tryz.ntmps14
     go_wp2_with (first
      | (go_at_call 32; with_reducible refine H1.out.mono ?_; rintro e w1 ⟨rfl, hb⟩; have HB1 := Aside0.mk hb; clear hb)
      | (go_at_call 33; with_reducible refine (H2.out _ HB1.out).mono ?_; rintro e w2 ⟨rfl, hb⟩; have HB2 := Aside0.mk (HB1.out.trans (hb.mono HB1.out.size)); clear hb)
      | (go_at_call 34; with_reducible refine (H3.out _ HB2.out).mono ?_; rintro e w3 ⟨rfl, hb⟩; have HB3 := Aside0.mk (HB2.out.trans (hb.mono HB2.out.size)); clear hb)
      | (go_at_call 35; with_reducible refine (H4.out _ HB3.out).mono ?_; rintro e w4 ⟨⟨u, ts, rfl, hts, htl, ho⟩, hb⟩; obtain ⟨U, uc, rfl⟩ := own_slice ho; have HTS := Aside0.mk hts; have HO := Aside0.mk ho; have HB4 := Aside0.mk (HB3.out.trans (hb.mono HB3.out.size)); clear hb hts ho)
      | fail)
     have HFal := HU.out ts HTS.out
     have HU2 := Aside0.mk HFal
     clear HFal
     obtain ⟨m, hm⟩ : ∃ m, m = ts.length := ⟨_, rfl⟩
     rw [← hm] at HO htl ⊢
     have HM := Aside0.mk hm
     clear hm
     have HB4' := Aside0.mk (And.intro HB3.out.size HB4.out)
     go_loopg [44] m (fun gg s44 wr => ∃ (j : Nat), s44 = .int .i64 j ∧ j ≤ m ∧ m - j ≤ gg ∧ Aside0 ((∀ q (hq : q < ts.length), q < j → (getP b ⟨ts[q].toArray⟩).2.2.2 = true) ∧ Go.RowKit.Below w4.heap.size w4 wr))
     case atStart => exact ⟨0, rfl, Nat.zero_le _, Nat.le_refl _, ⟨fun q _ h => absurd h (by omega), Go.RowKit.Below.refl _ _⟩⟩
     case round =>
      obtain ⟨j, rfl, hj, hg, HI⟩ := hrel
      have HBr := Aside0.mk (HB4.out.trans (HI.out.2.mono HB4.out.size))
      by_cases hlt : j < m
      ·have hltz : (j : Int) < (m : Int) := by omega
       obtain ⟨gU, eU, cU⟩ : ∃ gU, U = some ⟨gU, 0, none⟩ ∧ wr.cell? ⟨gU, j, none⟩ = some (.string ⟨(ts[j]'(by rw [← HM.out]; exact hlt)).toArray⟩) := by
        have ho := own_move HO.out (fun k hk => HI.out.2.block k (own_lt HO.out k hk))
        rcases ho.2 with ⟨e, h0⟩ | ⟨g', cap, cur, e, hbb, hgg, hnn, hm2, hss, htt⟩
        ·omega
        ·injection e with e1 e2 e3
         refine ⟨g', e1, ?_⟩
         rw [blk_cell hgg j, ← Array.getElem?_toList]
         have h4 : (cur.toList.take (m * 1))[j]? = (ts.map encStr)[j]? := by rw [htt]
         rw [List.getElem?_take_of_lt (by omega)] at h4
         rw [h4, List.getElem?_map, List.getElem?_eq_getElem (by rw [← HM.out]; exact hlt)]
         rfl
       subst eU
       have hap := own_le HO.out
       have HJ : Aside0 (ts[j]'(by rw [← HM.out]; exact hlt) ∈ ts) := ⟨List.getElem_mem _⟩
       obtain ⟨x, hx⟩ : ∃ x, x = ts[j]'(by rw [← HM.out]; exact hlt) := ⟨_, rfl⟩
       rw [← hx] at cU HJ
       have HX := Aside0.mk hx
       clear hx
       have hG := Aside0.mk (H6.out wr ⟨x.toArray⟩ HBr.out)
       generalize hfd : (getP b ⟨x.toArray⟩).2.2.2 = fd at hG
       generalize (getP b ⟨x.toArray⟩).1 = ga at hG
       generalize (getP b ⟨x.toArray⟩).2.1 = gb at hG
       generalize (getP b ⟨x.toArray⟩).2.2.1 = gc at hG
       have HFD := Aside0.mk hfd
       clear hfd
       cases fd with
       | true =>
        go_wp2_with (first
         | (go_at_call 36; with_reducible refine hG.out.mono ?_; rintro e w5 ⟨rfl, hb⟩; have HB5 := Aside0.mk (HI.out.2.trans (hb.mono HI.out.2.size)); clear hb)
         | fail)
        go_roundg (m - (j + 1))
        case measure => omega
        case rel => exact ⟨j + 1, by go_num, by omega, by omega, ⟨fun q hq hqj => by
         by_cases hqq : q = j
         ·subst hqq; rw [← HX.out]; exact HFD.out
         ·exact HI.out.1 q hq (by omega), HB5.out.alloc HB5.out.size _⟩⟩
       | false =>
        have hub : ub = true := HU2.out.1 ⟨x, HJ.out, HFD.out⟩
        subst hub
        go_wp2_with (first
         | (go_at_call 36; with_reducible refine hG.out.mono ?_; rintro e w5 ⟨rfl, hb⟩; have HB5 := Aside0.mk (HBr.out.trans (hb.mono HBr.out.size)); clear hb)
         | fail)
        go_ret2
        exact ⟨rfl, HB5.out.alloc HB5.out.size _⟩
      ·have hltz : ¬ (j : Int) < (m : Int) := by omega
       have hub : ub = false := HU2.out.2 (fun x hx => by
        obtain ⟨q, hq, rfl⟩ := List.getElem_of_mem hx
        exact HI.out.1 q hq (by have := HM.out; omega))
       subst hub
       go_wp2_with (first
        | (go_at_call 37; with_reducible refine (H5.out _ HBr.out).mono ?_; rintro e w5 ⟨rfl, hb⟩; have HB5 := Aside0.mk (HBr.out.trans (hb.mono HBr.out.size)); clear hb)
        | fail)
       go_ret2
       exact ⟨rfl, HB5.out⟩
   ·have hE : holdsE l t i b = chkP b := by unfold holdsE; rw [if_neg (by simp [e1]), if_neg (by simp [e2]), if_pos e3]
    have hV : holdsV l t i b = false := by unfold holdsV; rw [hE, if_neg e3]
    rw [hE, hV]
    rw [e1] at H1
    rw [e2] at H2
    have d0 : (chkP b == 0) = false := by simp [e3]
    have d1 : (chkP b != 0) = true := by simp [e3]
    clear hE hV e1 e2 HN HF htl
    generalize chkP b = e0 at *
    go_enter Tryz.func14, Tryz.ntmps14
    go_wp2_with (first
     | (go_at_call 32; with_reducible refine H1.out.mono ?_; rintro e w1 ⟨rfl, hb⟩; have HB1 := Aside0.mk hb; clear hb)
     | (go_at_call 33; with_reducible refine (H2.out _ HB1.out).mono ?_; rintro e w2 ⟨rfl, hb⟩; have HB2 := Aside0.mk (HB1.out.trans (hb.mono HB1.out.size)); clear hb)
     | (go_at_call 34; with_reducible refine (H3.out _ HB2.out).mono ?_; rintro e w3 ⟨rfl, hb⟩; have HB3 := Aside0.mk (HB2.out.trans (hb.mono HB2.out.size)); clear hb)
     | fail)
    go_ret2
    exact ⟨rfl, HB3.out⟩
  ·have hE : holdsE l t i b = trP t := by unfold holdsE; rw [if_neg (by simp [e1]), if_pos e2]
   have hV : holdsV l t i b = false := by unfold holdsV; rw [hE, if_neg e2]
   rw [hE, hV]
   rw [e1] at H1
   have d0 : (trP t == 0) = false := by simp [e2]
   have d1 : (trP t != 0) = true := by simp [e2]
   clear hE hV e1 HN HF htl H3
   generalize trP t = e0 at *
   go_enter Tryz.func14, Tryz.ntmps14
   go_wp2_with (first
    | (go_at_call 32; with_reducible refine H1.out.mono ?_; rintro e w1 ⟨rfl, hb⟩; have HB1 := Aside0.mk hb; clear hb)
    | (go_at_call 33; with_reducible refine (H2.out _ HB1.out).mono ?_; rintro e w2 ⟨rfl, hb⟩; have HB2 := Aside0.mk (HB1.out.trans (hb.mono HB1.out.size)); clear hb)
    | fail)
   go_ret2
   exact ⟨rfl, HB2.out⟩
 ·have hE : holdsE l t i b = chkN l := by unfold holdsE; rw [if_pos e1]
  have hV : holdsV l t i b = false := by unfold holdsV; rw [hE, if_neg e1]
  rw [hE, hV]
  have d0 : (chkN l == 0) = false := by simp [e1]
  have d1 : (chkN l != 0) = true := by simp [e1]
  clear hE hV HN HF htl H2 H3
  generalize chkN l = e0 at *
  go_enter Tryz.func14, Tryz.ntmps14
  go_wp2_with (first
   | (go_at_call 32; with_reducible refine H1.out.mono ?_; rintro e w1 ⟨rfl, hb⟩; have HB1 := Aside0.mk hb; clear hb)
   | fail)
  go_ret2
  exact ⟨rfl, HB1.out⟩
end Go.Proofs.YtghommaokdhjmaaGreat.Sat
/- safe.within: whether all strings of a row are in another one. -/
namespace Go.Proofs.YtghommaokdhjmaaGreat.Sat
open Go.RowKit Go.Lib Go.Sort Go.Proofs.SymP Go.Proofs.YtghommaokdhjmaaGreatW.PrintWords P FactC IRow Frm SpecM SpecB PSat PSpec CmpF BothB SortStr Str
def inS (vs : List ByteArray) (s : List UInt8) : Bool := vs.any fun y => decide ((⟨s.toArray⟩ : ByteArray) = y)
structure SRd (W : World) (U : Option Addr) (m c : Nat) (ts : List (List UInt8)) : Prop where
 len : ts.length = m
 cap : m ≤ c
 cells : 0 < m → ∃ g, U = some ⟨g, 0, none⟩ ∧ ∀ j (hj : j < ts.length), W.cell? ⟨g, j, none⟩ = some (.string ⟨ts[j].toArray⟩)
theorem SRd.below {W W' : World} {U : Option Addr} {m c : Nat} {ts : List (List UInt8)} (h : SRd W U m c ts) (hb : Go.RowKit.Below W.heap.size W W') : SRd W' U m c ts := ⟨h.len, h.cap, fun hm => by
 obtain ⟨g, e, hc⟩ := h.cells hm
 exact ⟨g, e, fun j hj => (hb.cell (World.block_lt_of_cell? _ _ (hc j hj))).trans (hc j hj)⟩⟩
theorem SRd.of {W : World} {b : Nat} {U : Option Addr} {m c : Nat} {ts : List (List UInt8)} (ho : W.ownsRow b 9 1 (.slice U m c) ts.length (ts.map encStr)) : SRd W U m c ts := by
 have hcap := own_le ho
 rcases ho.2 with ⟨e, h0⟩ | ⟨g', cap, cur, e, hbb, hgg, hnn, hm2, hss, htt⟩
 ·injection e with e1 e2 e3
  exact ⟨by omega, hcap, fun h => absurd h (by omega)⟩
 ·injection e with e1 e2 e3
  refine ⟨e2.symm, hcap, fun _ => ⟨g', e1, fun j hj => ?_⟩⟩
  rw [blk_cell hgg j, ← Array.getElem?_toList]
  have h4 : (cur.toList.take (ts.length * 1))[j]? = (ts.map encStr)[j]? := by rw [htt]
  rw [List.getElem?_take_of_lt (by omega)] at h4
  rw [h4, List.getElem?_map, List.getElem?_eq_getElem hj]
  rfl
set_option maxHeartbeats 4000000 in
set_option maxRecDepth 1000000 in
theorem clos_calls {W : World} {gO c : Nat} {A : Option Addr} {vs : List ByteArray} (s : List UInt8) (h0 : W.cell? ⟨gO, 0, none⟩ = some (.slice A vs.length c)) (hC : Kd.C Kd.string W A vs.length vs) (hc : vs.length ≤ c) (hl : vs.length ≤ 1000000) :
  Calls Tryz.prog 104 #[.string ⟨s.toArray⟩, .pointer (some ⟨gO, 0, none⟩)] W fun e w' => e = .returned (.bool (!inS vs s)) ∧ Go.RowKit.Below W.heap.size W w' := by
 obtain ⟨k, hk⟩ := (ev_contains hl ⟨s.toArray⟩).rounds
 have HC := Aside0.mk (slices_Contains_string_string.calls k A c vs ⟨s.toArray⟩ _ W hC hc hk)
 have hin : inS vs s = vs.any fun y => decide ((⟨s.toArray⟩ : ByteArray) = y) := rfl
 rw [hin]
 generalize (vs.any fun y => decide ((⟨s.toArray⟩ : ByteArray) = y)) = q at *
 clear hk hC hl hin
 go_enter Tryz.func104, Tryz.ntmps104
 go_wp2_with (go_at_call 105; with_reducible refine HC.out.mono ?_; rintro e w1 ⟨rfl, hb⟩; have HB := Aside0.mk hb.below; clear hb)
 go_ret
 exact ⟨rfl, HB.out⟩
set_option maxHeartbeats 4000000 in
set_option maxRecDepth 1000000 in
theorem idx_calls {w : World} {gO c m uc : Nat} {U A : Option Addr} {vs : List ByteArray} {ts : List (List UInt8)} (hU : SRd w U m uc ts) (h0 : w.cell? ⟨gO, 0, none⟩ = some (.slice A vs.length c)) (hC : Kd.C Kd.string w A vs.length vs) (hc : vs.length ≤ c) (hl : vs.length ≤ 1000000) (hm : m ≤ 1000000) :
  Calls Tryz.prog 125 #[.slice U m uc, .func (.func 104) #[] #[.pointer (some ⟨gO, 0, none⟩)]] w fun e w' => (∃ r : Int, e = .returned (.int .i64 r) ∧ decide (0 ≤ r) = !ts.all (inS vs)) ∧ Go.RowKit.Below w.heap.size w w' := by
 have eg : ∀ args w, (callFunc 104 args).run Tryz.prog w = .ok (.enter 104 args) w := enters_of Tryz.func104 (by kernel_rfl) rfl
 have HU := Aside0.mk hU
 have HC : Aside0 (∀ W s, Go.RowKit.Below w.heap.size w W → Calls Tryz.prog 104 #[.string ⟨s.toArray⟩, .pointer (some ⟨gO, 0, none⟩)] W fun e w' => e = .returned (.bool (!inS vs s)) ∧ Go.RowKit.Below W.heap.size W w') := ⟨fun W s hW => clos_calls s (mvc hW h0) (Kd.C_below hC hW) hc hl⟩
 have hcap := hU.cap
 clear hU h0 hC hc hl
 go_enter Tryz.func125, Tryz.ntmps125
 go_wp2
 go_loopg [5, 8] m (fun gg _ s8 wr => ∃ j : Nat, j ≤ m ∧ m - j ≤ gg ∧ s8 = .int .i64 j ∧ Aside0 (Go.RowKit.Below w.heap.size w wr ∧ ∀ q (hq : q < ts.length), q < j → inS vs ts[q] = true))
 case atStart => exact ⟨0, Nat.zero_le _, Nat.le_refl _, rfl, ⟨Go.RowKit.Below.refl _ _, fun q _ h => absurd h (by omega)⟩⟩
 case round =>
  obtain ⟨j, hj, hg, rfl, HI⟩ := hrel
  by_cases hlt : j < m
  ·have hltz : (j : Int) < (m : Int) := by omega
   obtain ⟨gU, eU, cU⟩ := (HU.out.below HI.out.1).cells (by omega)
   subst eU
   have hjl : j < ts.length := by rw [HU.out.len]; exact hlt
   replace cU := cU j hjl
   have HJ := Aside0.mk hjl
   obtain ⟨x, hx⟩ : ∃ x, x = ts[j] := ⟨_, rfl⟩
   rw [← hx] at cU
   have HX := Aside0.mk hx
   clear hx
   have hG := Aside0.mk (HC.out wr x HI.out.1)
   generalize hq : inS vs x = q at hG
   have HQ := Aside0.mk hq
   clear hq
   cases q with
   | true =>
    go_wp2_with (go_at_fn 104; (with_reducible refine hG.out.mono ?_); rintro e w' ⟨rfl, hb⟩; have HB := Aside0.mk (HI.out.1.trans (hb.mono HI.out.1.size)); clear hb)
    go_roundg (m - (j + 1))
    case measure => omega
    case rel => exact ⟨j + 1, by omega, by omega, by go_num, ⟨HB.out, fun q hq hqj => by
     by_cases e : q = j
     ·subst e; rw [← HX.out]; exact HQ.out
     ·exact HI.out.2 q hq (by omega)⟩⟩
   | false =>
    have hall : ts.all (inS vs) = false := by rw [List.all_eq_false]; exact ⟨ts[j], List.getElem_mem _, by rw [← HX.out, HQ.out]; simp⟩
    have HALL := Aside0.mk hall
    clear hall
    go_wp2_with (go_at_fn 104; (with_reducible refine hG.out.mono ?_); rintro e w' ⟨rfl, hb⟩; have HB := Aside0.mk (HI.out.1.trans (hb.mono HI.out.1.size)); clear hb)
    go_ret
    exact ⟨⟨_, rfl, by rw [HALL.out]; simp⟩, HB.out⟩
  ·have hltz : ¬ (j : Int) < (m : Int) := by omega
   have hall : ts.all (inS vs) = true := by
    rw [List.all_eq_true]
    intro x hx
    obtain ⟨q, hq, rfl⟩ := List.getElem_of_mem hx
    exact HI.out.2 q hq (by have := HU.out.len; omega)
   have HALL := Aside0.mk hall
   clear hall
   go_wp2
   go_ret
   exact ⟨⟨_, rfl, by rw [HALL.out]; simp⟩, HI.out.1⟩
set_option maxHeartbeats 4000000 in
set_option maxRecDepth 1000000 in
theorem within_calls {w : World} {c m uc : Nat} {U A : Option Addr} {vs : List ByteArray} {ts : List (List UInt8)} (hU : SRd w U m uc ts) (hC : Kd.C Kd.string w A vs.length vs) (hc : vs.length ≤ c) (hl : vs.length ≤ 1000000) (hm : m ≤ 1000000) :
  Calls Tryz.prog 70 #[.slice U m uc, .slice A vs.length c] w fun e w' => e = .returned (.bool (ts.all (inS vs))) ∧ Go.RowKit.Below w.heap.size w w' := by
 have hW : Go.RowKit.Below w.heap.size w (w.alloc (.cells #[.slice A vs.length c] 70)) := (Go.RowKit.Below.refl _ w).alloc (Nat.le_refl _) _
 have HK : Aside0 (Calls Tryz.prog 103 #[.slice U m uc, .func (.func 104) #[] #[.pointer (some ⟨w.heap.size, 0, none⟩)]] (w.alloc (.cells #[.slice A vs.length c] 70)) fun e w' => e = .returned (.bool (!ts.all (inS vs))) ∧ Go.RowKit.Below (w.alloc (.cells #[.slice A vs.length c] 70)).heap.size (w.alloc (.cells #[.slice A vs.length c] 70)) w') := ⟨by
  have HI := Aside0.mk (idx_calls (w := w.alloc (.cells #[.slice A vs.length c] 70)) (gO := w.heap.size) (hU.below hW) (by simp) (Kd.C_below hC hW) hc hl hm)
  clear hU hC hW
  generalize w.alloc (.cells #[.slice A vs.length c] 70) = W at HI ⊢
  generalize (!ts.all (inS vs)) = q at HI ⊢
  go_enter Tryz.func103, Tryz.ntmps103
  go_wp2_with (go_at_call 125; with_reducible refine HI.out.mono ?_; rintro e w1 ⟨⟨r, rfl, hr⟩, hb⟩; have HB := Aside0.mk hb; clear hb)
  go_ret
  exact ⟨by simp [hr], HB.out⟩⟩
 have HW := Aside0.mk hW
 clear hU hC hW
 generalize hq : ts.all (inS vs) = q at HK ⊢
 clear hq
 go_enter Tryz.func70, Tryz.ntmps70
 go_wp2_with (go_at_call 103; with_reducible refine HK.out.mono ?_; rintro e w1 ⟨rfl, hb⟩; have HB := Aside0.mk (HW.out.trans (hb.mono HW.out.size)); clear hb)
 go_ret
 exact ⟨by simp, HB.out⟩
end Go.Proofs.YtghommaokdhjmaaGreat.Sat
/- The variables below any node of a right formula. -/
namespace Go.Proofs.YtghommaokdhjmaaGreat.Frm
open Go.RowKit Go.Lib Go.Sort Go.Proofs.SymP Go.Proofs.YtghommaokdhjmaaGreatW.PrintWords P FactC IRow SortStr
set_option maxHeartbeats 4000000 in
set_option maxRecDepth 1000000 in
theorem from_at {A : Option Addr} {n c q f : Nat} {l : List S62} {w : World} {fr dp : List Int} (h : NRow w A n c l) (hf : fitNs l) (hk : chkN l = 0) (hq : fromsP l 0 [] [] = some (fr, dp)) (hqn : q < n) (h0 : fr.getD q 0 = (f : Int)) : Calls Tryz.prog 97 #[.slice A n c, .int .i64 (q : Int)] w fun e w' => e = .returned (.int .i64 (f : Int)) ∧ Go.RowKit.Below w.heap.size w w' := by
 have hn := h.len
 have lf : fr.length = n := (froms_len hq).trans hn
 have HK : Aside0 (Calls Tryz.prog 32 #[.slice A n c] w fun e w' => e = .returned (.int .i64 0) ∧ Go.RowKit.Below w.heap.size w w') := ⟨hk ▸ check_calls h hf⟩
 have HC : Aside0 (∀ W, Go.RowKit.Below w.heap.size w W → Calls Tryz.prog 63 #[.slice A n c] W fun e w' => ∃ vf vd, e = .returned (.tuple #[vf, vd, .bool true]) ∧ IRow w' W.heap.size vf fr ∧ Go.RowKit.Below W.heap.size W w') := ⟨fun W hW => by
  have h2 := h.below hW
  subst hn
  refine (froms_calls A c l W h2.C h2.cap (fun x hx => (hf.1 x hx).1) hf.2 _ hq).mono ?_
  rintro e w' ⟨vf, vd, rfl, hI, hb⟩
  exact ⟨vf, vd, rfl, (hI fr dp rfl).1, hb⟩⟩
 have HL := Aside0.mk lf
 have HZ := Aside0.mk h0
 clear h hf hk hq hn lf h0
 have p1z : (0 : Int) ≤ (q : Int) := by omega
 have p1y : (q : Int) < (n : Int) := by omega
 have d1 : decide ((q : Int) < 0) = false := decide_eq_false (by omega)
 have d2 : decide ((n : Int) ≤ (q : Int)) = false := decide_eq_false (by omega)
 have tn : ((q : Int)).toNat = q := by omega
 go_enter Tryz.func97, Tryz.ntmps97
 go_wp2_with (first
  | (go_at_call 32; with_reducible refine HK.out.mono ?_; rintro e w1 ⟨rfl, hb⟩; have HB := Aside0.mk hb; clear hb)
  | (go_at_call 63; with_reducible refine (HC.out _ HB.out).mono ?_; rintro e w2 ⟨vf, vd, rfl, hI, hb⟩; obtain ⟨g, cg, rfl, k1, k2⟩ := row_cell hI HL.out (by omega); replace k2 := k2 q hqn; rw [HZ.out] at k2; have HB2 := Aside0.mk (HB.out.trans (hb.mono HB.out.size)); clear hb hI)
  | fail)
 go_ret
 exact ⟨rfl, HB2.out⟩
set_option maxHeartbeats 8000000 in
set_option maxRecDepth 1000000 in
theorem vars_at {A : Option Addr} {n c q f : Nat} {l : List S62} {w : World} {fr dp : List Int} (h : NRow w A n c l) (hf : fitNs l) (hk : chkN l = 0) (hfr : fromsP l 0 [] [] = some (fr, dp)) (hqn : q < n) (hz : fr.getD q 0 = (f : Int)) (hfq : f ≤ q) :
  Calls Tryz.prog 66 #[.agg #[.slice A n c], .int .i64 (q : Int)] w fun e w' => (∃ (u : Value) (ts : List (List UInt8)), e = .returned u ∧ (∀ x, x ∈ ts ↔ x ∈ (varsN ((l.take (q + 1)).drop f)).map (·.data.toList)) ∧ ts.length ≤ 1000000 ∧ w'.ownsRow w.heap.size 9 1 u ts.length (ts.map encStr)) ∧ Go.RowKit.Below w.heap.size w w' := by
 have hu := Tryz.underlying62
 have hn := h.len
 have hk2 := chk_inL hk
 have hn2 : n ≤ 40 := by omega
 have hcap := h.cap
 have HFr : Aside0 (∀ W, Go.RowKit.Below w.heap.size w W → Calls Tryz.prog 97 #[.slice A n c, .int .i64 (q : Int)] W fun e w' => e = .returned (.int .i64 (f : Int)) ∧ Go.RowKit.Below W.heap.size W w') := ⟨fun W hW => from_at (h.below hW) hf hk hfr hqn hz⟩
 have hl2 : ((l.take (q + 1)).drop f).length = q + 1 - f := by rw [List.length_drop, List.length_take]; omega
 have hC2 : Kd.C k62 w (if c = f then A else A.map (·.add (f * 5))) ((l.take (q + 1)).drop f).length ((l.take (q + 1)).drop f) := by
  subst hn
  exact Kd.C_mid h.C (by omega) (by omega) hcap
 obtain ⟨ad0, hA, _⟩ := h.C.2.2 (by omega)
 subst hA
 rw [if_neg (by omega)] at hC2
 rw [hl2] at hC2
 have hf2 : ∀ x ∈ (l.take (q + 1)).drop f, fitN x ∧ x.f1.f1.length ≤ 1000 := fun x hx => hf.1 x (List.mem_of_mem_take (List.mem_of_mem_drop hx))
 replace hC2 : Kd.C k62 w (some (ad0.add (f * 5))) (q + 1 - f) ((l.take (q + 1)).drop f) := hC2
 generalize (l.take (q + 1)).drop f = l2 at hl2 hC2 hf2 ⊢
 obtain ⟨p, hp⟩ : ∃ p, p = q + 1 := ⟨_, rfl⟩
 rw [← hp] at hl2 hC2
 have kw : IntKind.i64.wrap ((q : Int) + 1) = (p : Int) := by rw [show (q : Int) + 1 = p by omega]; exact kwrap (by omega) (by omega)
 have hcut : ∀ W : World, (Instr.slice 22 (.slice (some ad0) n c) (some (.int .i64 (f : Int))) (some (.int .i64 (p : Int))) none).run Tryz.prog W = .ok (.slice (some (ad0.add (f * 5))) (p - f) (c - f)) W := fun W => by
  rcases hinf : Tryz.prog.info? 62 with _ | i
  ·have h5 : (Tryz.prog.info? 62).map (fun i => i.size) = some 5 := by kernel_rfl
   rw [hinf] at h5; cases h5
  ·have h5 : (Tryz.prog.info? 62).map (fun i => i.size) = some 5 := by kernel_rfl
   rw [hinf] at h5
   simp only [Option.map_some, Option.some.injEq] at h5
   have := cut_mid (P := Tryz.prog) 22 62 .i64 .i64 Tryz.underlying22 hinf 5 h5 (some ad0) n c (f : Int) (p : Int) (by omega) (by omega) (by omega) hcap W
   rw [if_neg (by omega)] at this
   simpa using this
 have hm40 : p - f ≤ 40 := by omega
 have nz : (0 : Int) ≤ (f : Int) := by omega
 have fpz : (f : Int) ≤ (p : Int) := by omega
 have pcz : (p : Int) ≤ (c : Int) := by omega
 have pz : (0 : Int) ≤ (p : Int) := by omega
 have HR := Aside0.mk (NRow.mk hl2 (show p - f ≤ c - f by omega) hC2)
 have HF := Aside0.mk hf2
 have HN := Aside0.mk hl2
 clear h hf hk hk2 hn hl2 hC2 hf2 hfr hz hp
 go_enter Tryz.func66, Tryz.ntmps66
 go_wp2
 refine wp_world (fun W => W.cell? ⟨w.heap.size, 0, none⟩ = some (.slice (some ad0) n c) ∧ Go.RowKit.Below w.heap.size w W) ⟨by simp, (Go.RowKit.Below.refl _ w).alloc (Nat.le_refl _) _⟩ ?_
 rintro w0 ⟨z0, hb0⟩
 have hd1 : Go.RowKit.Below w0.heap.size w0 w0.drew := below_drew1 (Go.RowKit.Below.refl _ _)
 have hF2 : Aside0 (∀ W, Go.RowKit.Below w0.heap.size w0 W → Calls Tryz.prog 97 #[.slice (some ad0) n c, .int .i64 (q : Int)] W fun e w' => e = .returned (.int .i64 (f : Int)) ∧ Go.RowKit.Below w0.heap.size w0 w') := ⟨fun W hW => (HFr.out W (hb0.trans (hW.mono hb0.size))).mono fun e w' h => ⟨h.1, hW.trans (h.2.mono hW.size)⟩⟩
 have HB0 := Aside0.mk hb0
 clear hb0 HFr
 go_region_held3 (fun w' => w'.cell? ⟨w.heap.size, 0, none⟩ = some (.slice (some ad0) n c)) (first | go_keep | assumption)
  (first
   | (go_at_call 97; (with_reducible refine (hF2.out _ hd1).mono ?_); rintro e w1 ⟨rfl, hb⟩; replace z0 := mvc hb z0; have HB1 := Aside0.mk (HB0.out.trans (hb.mono HB0.out.size)); clear hb)
   | fail)
 all_goals go_wp2
 clear z0 hd1 kw nz fpz pcz pz hcut
 generalize ad0.add (f * 5) = ad at *
 generalize p - f = m at *
 generalize c - f = c2 at *
 have HF2' := Aside0.mk True.intro
 clear hF2
 go_loopg [5, 18] m (fun gg s5 s18 wr => ∃ (B : Option Addr) (cb : Nat) (xs : List ByteArray) (j : Nat), s5 = .slice B xs.length cb ∧ s18 = .int .i64 j ∧ j ≤ m ∧ m - j ≤ gg ∧ Aside0 (xs = varsN (l2.take j) ∧ xs.length ≤ 1000 * j ∧ SRow wr w.heap.size (.slice B xs.length cb) xs ∧ Go.RowKit.Below w.heap.size w wr))
 case atStart => exact ⟨none, 0, [], 0, rfl, rfl, Nat.zero_le _, Nat.le_refl _, ⟨rfl, Nat.zero_le _, own_nil _ _ _ _, HB1.out⟩⟩
 case round =>
  obtain ⟨B, cb, xs, j, rfl, rfl, hj, hg, HI⟩ := hrel
  by_cases hlt : j < m
  ·have hltz : (j : Int) < (m : Int) := by omega
   have hj2 : j < l2.length := by rw [HN.out]; exact hlt
   obtain ⟨ad', A2, c3, eA, y0, y1, y2, y3, y4, y5, y6⟩ := at_T62 (Kd.C_below HR.out.C HI.out.2.2.2) (j : Int) (by omega) hltz
   obtain rfl : ad = ad' := Option.some.inj eA
   rw [rd62_get hj2] at y0 y1 y2 y3 y4 y5 y6
   have HX := Aside0.mk (HF.out l2[j] (List.getElem_mem hj2))
   have HD : Aside0 (varsN (l2.take (j + 1)) = varsN (l2.take j) ++ SpecM.varsL [] l2[j].f1.f1) := ⟨by unfold varsN; rw [List.take_succ_eq_append_getElem hj2, List.flatMap_append]; simp⟩
   generalize l2[j] = x at *
   rw [show ((j : Int)).toNat * 5 = j * 5 by omega] at y0 y1 y2 y3 y4
   have hb1 : Go.RowKit.Below w.heap.size w (wr.alloc (.cells #[.int .i64 x.f0, .string x.f1.f0, .slice A2 x.f1.f1.length c3, .int .i64 x.f2, .int .i64 x.f3] 62)) := HI.out.2.2.2.alloc HI.out.2.2.2.size _
   have hW : Go.RowKit.Below wr.heap.size wr (wr.alloc (.cells #[.int .i64 x.f0, .string x.f1.f0, .slice A2 x.f1.f1.length c3, .int .i64 x.f2, .int .i64 x.f3] 62)) := (Go.RowKit.Below.refl _ wr).alloc (Nat.le_refl _) _
   have hlen := varsL_len x.f1.f1 []
   have cV : Aside0 (∀ W, Go.RowKit.Below wr.heap.size wr W → Calls Tryz.prog 71 #[.agg #[.string x.f1.f0, .slice A2 x.f1.f1.length c3]] W fun e w' => ∃ v, e = .returned v ∧ SRow w' W.heap.size v (SpecM.varsL [] x.f1.f1) ∧ Go.RowKit.Below W.heap.size W w') := ⟨fun W hW => by
    obtain ⟨k, hk⟩ := (SpecM.ev_vars x.f1.f0 (ts := x.f1.f1) (by have := HX.out.2; omega)).rounds
    refine (match_Vars.calls k x.f1.f0 A2 c3 x.f1.f1 _ W (Kd.C_below y6 hW) y5 hk).mono ?_
    rintro e w' ⟨v, rfl, hR, hb⟩
    exact ⟨v, rfl, SRow.of hR, hb⟩⟩
   have hl1 : xs.length + (SpecM.varsL [] x.f1.f1).length ≤ 1000000 := by have := HX.out.2; have := HI.out.2.1; simp at hlen; omega
   go_upto_region 5 with fail
   refine wp_world (fun W => W.cell? ⟨wr.heap.size, 1, none⟩ = some (.string x.f1.f0) ∧ W.cell? ⟨wr.heap.size, 2, none⟩ = some (.slice A2 x.f1.f1.length c3) ∧ Go.RowKit.Below wr.heap.size wr W ∧ Go.RowKit.Below w.heap.size w W) ⟨by simp, by simp, hW, hb1⟩ ?_
   clear hW hb1 y0 y1 y2 y3 y4 y5 y6
   rintro w2 ⟨z1, z2, hb1, hb2⟩
   have HB2 := Aside0.mk (And.intro hb1 hb2)
   clear hb1 hb2
   go_wp2_with (first
    | (go_at_call 71; with_reducible refine (cV.out _ HB2.out.1).mono ?_; rintro e w3 ⟨v, rfl, hS, hb⟩; have HB3 := Aside0.mk (And.intro (HB2.out.1.trans (hb.mono HB2.out.1.size)) (HB2.out.2.trans (hb.mono HB2.out.2.size))); have HS := Aside0.mk hS; clear hb hS)
    | (at_builtin; obtain ⟨A', c', w5, happ, hS2, hb2⟩ := appendS (W := w3) w.heap.size w2.heap.size (.slice B xs.length cb) v xs (SpecM.varsL [] x.f1.f1) (HI.out.2.2.1.below HB3.out.1) HS.out HB3.out.2.size hl1; refine Lib.wpList_append_run _ (by rfl) (.tmp 22) (.tmp 25) 70 70 (by rfl) (.slice B xs.length cb) v (by rfl) (by rfl) (.slice A' (xs.length + (SpecM.varsL [] x.f1.f1).length) c') w5 (happ 70) ?_; have HS2 := Aside0.mk hS2; have HB5 := Aside0.mk (HB3.out.2.trans hb2); clear hS2 hb2 happ)
    | fail)
   go_roundg (m - (j + 1))
   case measure => omega
   case rel => exact ⟨A', c', xs ++ SpecM.varsL [] x.f1.f1, j + 1, by rw [List.length_append], by go_num, by omega, by omega, ⟨by rw [HD.out, HI.out.1], by have := HX.out.2; have := HI.out.2.1; simp at hlen ⊢; omega, by rw [List.length_append]; exact HS2.out, HB5.out⟩⟩
  ·have hltz : ¬ (j : Int) < (m : Int) := by omega
   have hx : xs = varsN l2 := by rw [HI.out.1, List.take_of_length_le (by rw [HN.out]; omega)]
   have hl1 : xs.length ≤ 1000000 := by have := HI.out.2.1; omega
   have cS : Aside0 (Calls Tryz.prog 98 #[.slice B xs.length cb] wr fun e w' => e = .returned (.tuple #[]) ∧ (∃ ts : List (List UInt8), ts.Perm (xs.map (·.data.toList)) ∧ w'.ownsRow w.heap.size 9 1 (.slice B xs.length cb) ts.length (ts.map encStr)) ∧ Go.RowKit.Below w.heap.size wr w') := ⟨sortStr w.heap.size _ _ wr HI.out.2.2.1.enc HI.out.2.2.2.size (by simpa using hl1)⟩
   have HX := Aside0.mk hx
   clear hx
   go_wp2_with (first
    | (go_at_call 98; with_reducible refine cS.out.mono ?_; rintro e w3 ⟨rfl, ⟨ts, hp, ho⟩, hb⟩; have HO := Aside0.mk (And.intro hp ho); have HB3 := Aside0.mk (HI.out.2.2.2.trans hb); clear hb hp ho)
    | (go_at_call 99; with_reducible refine (compactStr w.heap.size _ _ _ HO.out.2 HB3.out.size (by rw [HO.out.1.length_eq]; simpa using hl1)).mono ?_; rintro e w4 ⟨⟨u, us, rfl, hm, hle, ho⟩, hb⟩; have HU := Aside0.mk (And.intro hm (And.intro hle ho)); have HB4 := Aside0.mk (HB3.out.trans hb); clear hb hm hle ho)
    | fail)
   go_ret
   refine ⟨⟨_, us, rfl, fun y => ?_, ?_, HU.out.2.2⟩, HB4.out⟩
   ·rw [HU.out.1 y, HO.out.1.mem_iff, HX.out]
   ·have h1 := HU.out.2.1
    rw [HO.out.1.length_eq, List.length_map] at h1
    omega
end Go.Proofs.YtghommaokdhjmaaGreat.Frm
/- What safe.Pattern asks of a right formula: looker.holds, found, tested, always; each has an answer, the same in all later worlds. -/
namespace Go.Proofs.YtghommaokdhjmaaGreat.Sat
open Go.RowKit Go.Lib Go.Sort Go.Proofs.SymP Go.Proofs.YtghommaokdhjmaaGreatW.PrintWords P FactC IRow Frm SpecM SpecB PSat PSpec CmpF BothB SortStr Str
theorem SRd.C {W : World} {U : Option Addr} {m c : Nat} {ts : List (List UInt8)} (h : SRd W U m c ts) (hm : m ≤ 1000000) : Kd.C Kd.string W U (ts.map fun s => (⟨s.toArray⟩ : ByteArray)).length (ts.map fun s => (⟨s.toArray⟩ : ByteArray)) := by
 have hl : (ts.map fun s => (⟨s.toArray⟩ : ByteArray)).length = m := by rw [List.length_map, h.len]
 rw [hl]
 refine ⟨hl, by omega, fun hp => ?_⟩
 obtain ⟨g, e, hc⟩ := h.cells hp
 refine ⟨_, e, fun j p hj => ⟨[.string p], rfl, rfl, fun i u hu => ?_⟩⟩
 have hj2 : j < ts.length := by rw [h.len, ← hl]; exact (List.getElem?_eq_some_iff.1 hj).1
 rw [List.getElem?_map, List.getElem?_eq_getElem hj2] at hj
 injection hj with hj
 have hi : i = 0 := by have := (List.getElem?_eq_some_iff.1 hu).1; simp at this; omega
 subst hi
 rw [List.getElem?_cons_zero] at hu
 injection hu with hu
 have he : Addr.add ⟨g, 0, none⟩ (j * 1 + 0) = ⟨g, j, none⟩ := by unfold Addr.add; by_cases h0 : j = 0 <;> simp [h0]
 rw [← hu, ← hj]
 show W.cell? (Addr.add ⟨g, 0, none⟩ (j * 1 + 0)) = _
 rw [he]
 exact hc j hj2
abbrev Lk (w : World) (A : Option Addr) (n c : Nat) (fn : Nat) (q : Nat) (v : Bool) : Prop := ∀ W, Go.RowKit.Below w.heap.size w W → Calls Tryz.prog fn #[.agg #[.slice A n c], .int .i64 (q : Int)] W fun e w' => e = .returned (.bool v) ∧ Go.RowKit.Below W.heap.size W w'
abbrev Lh (w : World) (A : Option Addr) (n c : Nat) (a b : Nat) (v : Bool) : Prop := ∀ W, Go.RowKit.Below w.heap.size w W → Calls Tryz.prog 124 #[.agg #[.slice A n c], .int .i64 (a : Int), .int .i64 (b : Int)] W fun e w' => e = .returned (.bool v) ∧ Go.RowKit.Below W.heap.size W w'

def subN (l : List S62) (fr : List Int) (q : Nat) : List ByteArray := varsN ((l.take (q + 1)).drop (fr.getD q 0).toNat)
theorem all_same {us vs : List (List UInt8)} {a b : List ByteArray} (hu : ∀ x, x ∈ us ↔ x ∈ a.map (·.data.toList)) (hv : ∀ x, x ∈ vs ↔ x ∈ b.map (·.data.toList)) : us.all (inS (vs.map fun s => (⟨s.toArray⟩ : ByteArray))) = a.all fun s => b.any fun y => decide (s = y) := by
 rw [Bool.eq_iff_iff, List.all_eq_true, List.all_eq_true]
 constructor
 ·intro h s hs
  have := h s.data.toList ((hu _).2 (List.mem_map.2 ⟨s, hs, rfl⟩))
  unfold inS at this
  rw [List.any_eq_true] at this
  obtain ⟨y, hy, he⟩ := this
  obtain ⟨z, hz, rfl⟩ := List.mem_map.1 hy
  obtain ⟨t, ht, rfl⟩ := List.mem_map.1 ((hv z).1 hz)
  rw [List.any_eq_true]
  exact ⟨t, ht, by simpa [ByteArray.ext_iff] using he⟩
 ·intro h x hx
  obtain ⟨s, hs, rfl⟩ := List.mem_map.1 ((hu x).1 hx)
  have := h s hs
  rw [List.any_eq_true] at this
  obtain ⟨y, hy, he⟩ := this
  unfold inS
  rw [List.any_eq_true]
  exact ⟨y, List.mem_map.2 ⟨y.data.toList, (hv _).2 (List.mem_map.2 ⟨y, hy, rfl⟩), by simp⟩, by simpa using he⟩
theorem within_look {w : World} {U V : Option Addr} {m uc m2 vc : Nat} {us vs : List (List UInt8)} {v : Bool} (hU : SRd w U m uc us) (hV : SRd w V m2 vc vs) (hm : m ≤ 1000000) (hm2 : m2 ≤ 1000000) (hv : us.all (inS (vs.map fun s => (⟨s.toArray⟩ : ByteArray))) = v) : Calls Tryz.prog 70 #[.slice U m uc, .slice V m2 vc] w fun e w' => e = .returned (.bool v) ∧ Go.RowKit.Below w.heap.size w w' := by
 subst hv
 have := within_calls hU (hV.C hm2) (c := vc) (by rw [List.length_map, hV.len]; exact hV.cap) (by rw [List.length_map, hV.len]; exact hm2) hm
 rwa [List.length_map, hV.len] at this
theorem Lk.up {w w0 : World} {A : Option Addr} {n c fn q : Nat} {v : Bool} (h : Lk w A n c fn q v) (hb : Go.RowKit.Below w.heap.size w w0) : Lk w0 A n c fn q v := fun W hW => h W (hb.trans (hW.mono hb.size))
theorem Lh.up {w w0 : World} {A : Option Addr} {n c a b : Nat} {v : Bool} (h : Lh w A n c a b v) (hb : Go.RowKit.Below w.heap.size w w0) : Lh w0 A n c a b v := fun W hW => h W (hb.trans (hW.mono hb.size))
section
variable {w : World} {A : Option Addr} {n c : Nat} {l : List S62} {fr dp : List Int}
theorem own_vars (h : NRow w A n c l) (hf : fitNs l) (hk : chkN l = 0) (hfr : fromsP l 0 [] [] = some (fr, dp)) {q : Nat} (hq : q < n) (W : World) (hW : Go.RowKit.Below w.heap.size w W) : Calls Tryz.prog 66 #[.agg #[.slice A n c], .int .i64 (q : Int)] W fun e w' => (∃ U m uc us, e = .returned (.slice U m uc) ∧ SRd w' U m uc us ∧ m ≤ 1000000 ∧ ∀ x, x ∈ us ↔ x ∈ (subN l fr q).map (·.data.toList)) ∧ Go.RowKit.Below W.heap.size W w' := by
 have ho := (froms_ok l 0 [] [] fr dp hfr okF_nil rfl).1 q (by rw [froms_len hfr, h.len]; exact hq)
 refine (vars_at (h.below hW) hf hk hfr hq (f := (fr.getD q 0).toNat) (by omega) (by omega)).mono ?_
 rintro e w' ⟨⟨u, us, rfl, hm, hl2, ho⟩, hb⟩
 obtain ⟨U, uc, rfl⟩ := own_slice ho
 exact ⟨⟨U, us.length, uc, us, rfl, SRd.of ho, hl2, hm⟩, hb⟩
set_option maxHeartbeats 4000000 in
set_option maxRecDepth 1000000 in
theorem holds_look (h : NRow w A n c l) (hf : fitNs l) (hk : chkN l = 0) (hfr : fromsP l 0 [] [] = some (fr, dp)) {a b : Nat} (ha : a < n) (hb : b < n) : Lh w A n c a b ((subN l fr a).all fun s => (subN l fr b).any fun y => decide (s = y)) := by
 intro w0 hw0
 have H1 : Aside0 (∀ W, Go.RowKit.Below w0.heap.size w0 W → Calls Tryz.prog 66 #[.agg #[.slice A n c], .int .i64 (a : Int)] W fun e w' => (∃ U m uc us, e = .returned (.slice U m uc) ∧ SRd w' U m uc us ∧ m ≤ 1000000 ∧ ∀ x, x ∈ us ↔ x ∈ (subN l fr a).map (·.data.toList)) ∧ Go.RowKit.Below W.heap.size W w') := ⟨fun W hW => own_vars h hf hk hfr ha W (hw0.trans (hW.mono hw0.size))⟩
 have H2 : Aside0 (∀ W, Go.RowKit.Below w0.heap.size w0 W → Calls Tryz.prog 66 #[.agg #[.slice A n c], .int .i64 (b : Int)] W fun e w' => (∃ U m uc us, e = .returned (.slice U m uc) ∧ SRd w' U m uc us ∧ m ≤ 1000000 ∧ ∀ x, x ∈ us ↔ x ∈ (subN l fr b).map (·.data.toList)) ∧ Go.RowKit.Below W.heap.size W w') := ⟨fun W hW => own_vars h hf hk hfr hb W (hw0.trans (hW.mono hw0.size))⟩
 clear h hf hk hfr ha hb hw0
 generalize subN l fr a = sa at *
 generalize subN l fr b = sb at *
 go_enter Tryz.func124, Tryz.ntmps124
 go_wp2
 refine wp_world (fun W => W.cell? ⟨w0.heap.size, 0, none⟩ = some (.slice A n c) ∧ Go.RowKit.Below w0.heap.size w0 W) ⟨by simp, (Go.RowKit.Below.refl _ w0).alloc (Nat.le_refl _) _⟩ ?_
 rintro w1 ⟨z0, hb0⟩
 have hd1 : Go.RowKit.Below w1.heap.size w1 w1.drew := below_drew1 (Go.RowKit.Below.refl _ _)
 have HB0 := Aside0.mk hb0
 have H1' : Aside0 (Calls Tryz.prog 66 #[.agg #[.slice A n c], .int .i64 (a : Int)] w1.drew fun e w' => (∃ U m uc us, e = .returned (.slice U m uc) ∧ SRd w' U m uc us ∧ m ≤ 1000000 ∧ ∀ x, x ∈ us ↔ x ∈ sa.map (·.data.toList)) ∧ Go.RowKit.Below w1.heap.size w1 w') := ⟨(H1.out w1.drew (hb0.trans (hd1.mono hb0.size))).mono fun e w' hh => ⟨hh.1, hd1.trans hh.2⟩⟩
 clear hb0 hd1 H1
 go_region_held3 (fun w' => w'.cell? ⟨w0.heap.size, 0, none⟩ = some (.slice A n c)) (first | go_keep | assumption)
  (first
   | (go_at_call 66; (with_reducible refine H1'.out.mono ?_); rintro e w2 ⟨⟨U, m, uc, us, rfl, hU, hm, hus⟩, hb⟩; have HB1 := Aside0.mk (HB0.out.trans (hb.mono HB0.out.size)); have HU := Aside0.mk (And.intro hU (And.intro hm hus)); replace z0 := mvc hb z0; clear hb hU hm hus)
   | (go_at_call 66; (with_reducible refine (H2.out _ HB1.out).mono ?_); rintro e w3 ⟨⟨V, m2, vc, vs, rfl, hV, hm, hvs⟩, hb⟩; have HB2 := Aside0.mk (HB1.out.trans (hb.mono HB1.out.size)); have HV := Aside0.mk (And.intro hV (And.intro hm hvs)); have HU2 := Aside0.mk (HU.out.1.below hb); replace z0 := mvc hb z0; clear hb hV hm hvs)
   | (go_at_call 70; (with_reducible refine (within_look HU2.out HV.out.1 HU.out.2.1 HV.out.2.1 (all_same HU.out.2.2 HV.out.2.2)).mono ?_); rintro e w4 ⟨rfl, hb⟩; have HB3 := Aside0.mk (HB2.out.trans (hb.mono HB2.out.size)); replace z0 := mvc hb z0; clear hb)
   | fail)
 all_goals go_wp2
 all_goals go_ret
 all_goals exact ⟨rfl, HB3.out⟩

set_option maxHeartbeats 8000000 in
set_option maxRecDepth 1000000 in
theorem found_go (hl : NRow w A n c l) {q a b : Nat} (hq : q < n) {x : S62} (hx : rd_T62 l (q : Int) = x) {k : Int} {v vA vB hAB hBA tA tB : Bool} (hk : x.f0 = k) (ha : k ≠ 1 → x.f2 = (a : Int)) (hb : two k → x.f3 = (b : Int)) (HA : k ≠ 1 → Lk w A n c 101 a vA) (HB : two k → Lk w A n c 101 b vB ∧ Lk w A n c 69 a tA ∧ Lk w A n c 69 b tB ∧ Lh w A n c a b hAB ∧ Lh w A n c b a hBA)
  (hc : (k = 1 ∧ v = true) ∨ (k = 5 ∧ v = vA) ∨ (k = 6 ∧ v = vA) ∨ (k = 3 ∧ vA = false ∧ v = false) ∨ (k = 3 ∧ vA = true ∧ hBA = false ∧ v = false) ∨ (k = 3 ∧ vA = true ∧ hBA = true ∧ v = tB) ∨ (k = 4 ∧ vA = false ∧ v = false) ∨ (k = 4 ∧ vA = true ∧ vB = false ∧ v = false) ∨ (k = 4 ∧ vA = true ∧ vB = true ∧ hAB = false ∧ v = false) ∨ (k = 4 ∧ vA = true ∧ vB = true ∧ hAB = true ∧ v = hBA) ∨ (k = 8 ∧ vB = false ∧ v = false) ∨ (k = 8 ∧ vB = true ∧ hAB = false ∧ v = false) ∨ (k = 8 ∧ vB = true ∧ hAB = true ∧ v = tA) ∨ (k = 2 ∧ v = false) ∨ (k = 7 ∧ v = false)) : Lk w A n c 101 q v := by
 intro w0 hw0
 have hu := Tryz.underlying62
 have hcap := hl.cap
 have hq1 : (0 : Int) ≤ (q : Int) := by omega
 have hq2 : (q : Int) < (n : Int) := by omega
 rcases hc with ⟨rfl, rfl⟩ | ⟨rfl, rfl⟩ | ⟨rfl, rfl⟩ | ⟨rfl, rfl, rfl⟩ | ⟨rfl, rfl, rfl, rfl⟩ | ⟨rfl, rfl, rfl, rfl⟩ | ⟨rfl, rfl, rfl⟩ | ⟨rfl, rfl, rfl, rfl⟩ | ⟨rfl, rfl, rfl, rfl, rfl⟩ | ⟨rfl, rfl, rfl, rfl, rfl⟩ | ⟨rfl, rfl, rfl⟩ | ⟨rfl, rfl, rfl, rfl⟩ | ⟨rfl, rfl, rfl, rfl⟩ | ⟨rfl, rfl⟩ | ⟨rfl, rfl⟩
 all_goals (
  (try have ha' := ha (by decide))
  (try have hb' := hb (by decide))
  (try have H1 := Aside0.mk ((HA (by decide)).up hw0))
  (try have H2 := Aside0.mk ((HB (by decide)).1.up hw0))
  (try have H3 := Aside0.mk ((HB (by decide)).2.1.up hw0))
  (try have H4 := Aside0.mk ((HB (by decide)).2.2.1.up hw0))
  (try have H5 := Aside0.mk ((HB (by decide)).2.2.2.1.up hw0))
  (try have H6 := Aside0.mk ((HB (by decide)).2.2.2.2.up hw0))
  clear ha hb HA HB
  go_enter Tryz.func101, Tryz.ntmps101
  go_upto_region 1 with fail
  refine wp_world (fun V => V.cell? ⟨w0.heap.size, 0, none⟩ = some (.slice A n c) ∧ Go.RowKit.Below w0.heap.size w0 V) ⟨by simp, (Go.RowKit.Below.refl _ w0).alloc (Nat.le_refl _) _⟩ ?_
  rintro w1 ⟨z0, hb0⟩
  have HR1 := Aside0.mk (hl.below (hw0.trans (hb0.mono hw0.size)))
  obtain ⟨ad, A2, c2, eA, y0, y1, y2, y3, y4, y5, y6⟩ := at_T62 HR1.out.C (q : Int) (by omega) (by omega)
  subst eA
  rw [hx] at y0 y1 y2 y3 y4
  rw [hk] at y0
  rw [show ((q : Int)).toNat * 5 = q * 5 by omega] at y0 y1 y2 y3 y4
  clear y5 y6
  go_upto_region 2 with fail
  refine wp_world (fun V => V.cell? ⟨w0.heap.size, 0, none⟩ = some (.slice (some ad) n c) ∧ V.cell? ⟨w1.heap.size, 0, none⟩ = some (.int .i64 x.f0) ∧ V.cell? ⟨w1.heap.size, 3, none⟩ = some (.int .i64 x.f2) ∧ V.cell? ⟨w1.heap.size, 4, none⟩ = some (.int .i64 x.f3) ∧ Go.RowKit.Below w0.heap.size w0 V) ⟨(((Go.RowKit.Below.refl _ w1).alloc (Nat.le_refl _) _).cell (World.block_lt_of_cell? _ _ z0)).trans z0, by simp [hk], by first | (simp; done) | simp [ha'], by first | (simp; done) | simp [hb'], hb0.alloc hb0.size _⟩ ?_
  clear y0 y1 y2 y3 y4 z0 hb0
  generalize w1.heap.size = g1
  rintro w2 ⟨z0, z1, z3, z4, hb2⟩
  have HB2 := Aside0.mk hb2
  clear hb2
  rw [hk] at z1
  (try rw [ha'] at z3)
  (try rw [hb'] at z4)
  go_wp2_with (first
   | (go_at_call 101; with_reducible refine (H1.out _ HB2.out).mono ?_; rintro e w3 ⟨rfl, hb⟩; replace HB2 := Aside0.mk (HB2.out.trans (hb.mono HB2.out.size)); replace z0 := mvc hb z0; replace z3 := mvc hb z3; replace z4 := mvc hb z4; clear hb)
   | (go_at_call 101; with_reducible refine (H2.out _ HB2.out).mono ?_; rintro e w3 ⟨rfl, hb⟩; replace HB2 := Aside0.mk (HB2.out.trans (hb.mono HB2.out.size)); replace z0 := mvc hb z0; replace z3 := mvc hb z3; replace z4 := mvc hb z4; clear hb)
   | (go_at_call 69; with_reducible refine (H3.out _ HB2.out).mono ?_; rintro e w3 ⟨rfl, hb⟩; replace HB2 := Aside0.mk (HB2.out.trans (hb.mono HB2.out.size)); replace z0 := mvc hb z0; replace z3 := mvc hb z3; replace z4 := mvc hb z4; clear hb)
   | (go_at_call 69; with_reducible refine (H4.out _ HB2.out).mono ?_; rintro e w3 ⟨rfl, hb⟩; replace HB2 := Aside0.mk (HB2.out.trans (hb.mono HB2.out.size)); replace z0 := mvc hb z0; replace z3 := mvc hb z3; replace z4 := mvc hb z4; clear hb)
   | (go_at_call 124; with_reducible refine (H5.out _ HB2.out).mono ?_; rintro e w3 ⟨rfl, hb⟩; replace HB2 := Aside0.mk (HB2.out.trans (hb.mono HB2.out.size)); replace z0 := mvc hb z0; replace z3 := mvc hb z3; replace z4 := mvc hb z4; clear hb)
   | (go_at_call 124; with_reducible refine (H6.out _ HB2.out).mono ?_; rintro e w3 ⟨rfl, hb⟩; replace HB2 := Aside0.mk (HB2.out.trans (hb.mono HB2.out.size)); replace z0 := mvc hb z0; replace z3 := mvc hb z3; replace z4 := mvc hb z4; clear hb)
   | fail)
  go_ret
  exact ⟨rfl, HB2.out⟩)

set_option maxHeartbeats 8000000 in
set_option maxRecDepth 1000000 in
theorem tested_go (hl : NRow w A n c l) {q a b : Nat} (hq : q < n) {x : S62} (hx : rd_T62 l (q : Int) = x) {k : Int} {v f aA tA tB : Bool} (hk : x.f0 = k) (ha : k ≠ 1 → x.f2 = (a : Int)) (hb : two k → x.f3 = (b : Int)) (HF : Lk w A n c 101 q f) (HA : k ≠ 1 → Lk w A n c 69 a tA ∧ Lk w A n c 102 a aA) (HB : two k → Lk w A n c 69 b tB)
  (hc : (k = 2 ∧ v = tA) ∨ (k = 3 ∧ tA = false ∧ v = f) ∨ (k = 3 ∧ tA = true ∧ tB = false ∧ v = f) ∨ (k = 3 ∧ tA = true ∧ tB = true ∧ v = true) ∨ (k = 4 ∧ tA = false ∧ v = f) ∨ (k = 4 ∧ tA = true ∧ tB = false ∧ v = f) ∨ (k = 4 ∧ tA = true ∧ tB = true ∧ v = true) ∨ (k = 7 ∧ v = aA) ∨ (k = 1 ∧ v = f) ∨ (k = 5 ∧ v = f) ∨ (k = 6 ∧ v = f) ∨ (k = 8 ∧ v = f)) : Lk w A n c 69 q v := by
 intro w0 hw0
 have hu := Tryz.underlying62
 have hcap := hl.cap
 have hq1 : (0 : Int) ≤ (q : Int) := by omega
 have hq2 : (q : Int) < (n : Int) := by omega
 have H1 := Aside0.mk (HF.up hw0)
 clear HF
 rcases hc with ⟨rfl, rfl⟩ | ⟨rfl, rfl, rfl⟩ | ⟨rfl, rfl, rfl, rfl⟩ | ⟨rfl, rfl, rfl, rfl⟩ | ⟨rfl, rfl, rfl⟩ | ⟨rfl, rfl, rfl, rfl⟩ | ⟨rfl, rfl, rfl, rfl⟩ | ⟨rfl, rfl⟩ | ⟨rfl, rfl⟩ | ⟨rfl, rfl⟩ | ⟨rfl, rfl⟩ | ⟨rfl, rfl⟩
 all_goals (
  (try have ha' := ha (by decide))
  (try have hb' := hb (by decide))
  (try have H2 := Aside0.mk ((HA (by decide)).1.up hw0))
  (try have H3 := Aside0.mk ((HA (by decide)).2.up hw0))
  (try have H4 := Aside0.mk ((HB (by decide)).up hw0))
  clear ha hb HA HB
  go_enter Tryz.func69, Tryz.ntmps69
  go_upto_region 1 with fail
  refine wp_world (fun V => V.cell? ⟨w0.heap.size, 0, none⟩ = some (.slice A n c) ∧ Go.RowKit.Below w0.heap.size w0 V) ⟨by simp, (Go.RowKit.Below.refl _ w0).alloc (Nat.le_refl _) _⟩ ?_
  rintro w1 ⟨z0, hb0⟩
  have HR1 := Aside0.mk (hl.below (hw0.trans (hb0.mono hw0.size)))
  obtain ⟨ad, A2, c2, eA, y0, y1, y2, y3, y4, y5, y6⟩ := at_T62 HR1.out.C (q : Int) (by omega) (by omega)
  subst eA
  rw [hx] at y0 y1 y2 y3 y4
  rw [hk] at y0
  rw [show ((q : Int)).toNat * 5 = q * 5 by omega] at y0 y1 y2 y3 y4
  clear y5 y6
  go_upto_region 2 with fail
  refine wp_world (fun V => V.cell? ⟨w0.heap.size, 0, none⟩ = some (.slice (some ad) n c) ∧ V.cell? ⟨w1.heap.size, 0, none⟩ = some (.int .i64 x.f0) ∧ V.cell? ⟨w1.heap.size, 3, none⟩ = some (.int .i64 x.f2) ∧ V.cell? ⟨w1.heap.size, 4, none⟩ = some (.int .i64 x.f3) ∧ Go.RowKit.Below w0.heap.size w0 V) ⟨(((Go.RowKit.Below.refl _ w1).alloc (Nat.le_refl _) _).cell (World.block_lt_of_cell? _ _ z0)).trans z0, by simp [hk], by first | (simp; done) | simp [ha'], by first | (simp; done) | simp [hb'], hb0.alloc hb0.size _⟩ ?_
  clear y0 y1 y2 y3 y4 z0 hb0
  generalize w1.heap.size = g1
  rintro w2 ⟨z0, z1, z3, z4, hb2⟩
  have HB2 := Aside0.mk hb2
  clear hb2
  rw [hk] at z1
  (try rw [ha'] at z3)
  (try rw [hb'] at z4)
  go_wp2_with (first
   | (go_at_call 101; with_reducible refine (H1.out _ HB2.out).mono ?_; rintro e w3 ⟨rfl, hb⟩; replace HB2 := Aside0.mk (HB2.out.trans (hb.mono HB2.out.size)); replace z0 := mvc hb z0; replace z3 := mvc hb z3; replace z4 := mvc hb z4; clear hb)
   | (go_at_call 69; with_reducible refine (H2.out _ HB2.out).mono ?_; rintro e w3 ⟨rfl, hb⟩; replace HB2 := Aside0.mk (HB2.out.trans (hb.mono HB2.out.size)); replace z0 := mvc hb z0; replace z3 := mvc hb z3; replace z4 := mvc hb z4; clear hb)
   | (go_at_call 102; with_reducible refine (H3.out _ HB2.out).mono ?_; rintro e w3 ⟨rfl, hb⟩; replace HB2 := Aside0.mk (HB2.out.trans (hb.mono HB2.out.size)); replace z0 := mvc hb z0; replace z3 := mvc hb z3; replace z4 := mvc hb z4; clear hb)
   | (go_at_call 69; with_reducible refine (H4.out _ HB2.out).mono ?_; rintro e w3 ⟨rfl, hb⟩; replace HB2 := Aside0.mk (HB2.out.trans (hb.mono HB2.out.size)); replace z0 := mvc hb z0; replace z3 := mvc hb z3; replace z4 := mvc hb z4; clear hb)
   | fail)
  go_ret
  exact ⟨rfl, HB2.out⟩)

set_option maxHeartbeats 8000000 in
set_option maxRecDepth 1000000 in
theorem always_no (hl : NRow w A n c l) {q a : Nat} (hq : q < n) {x : S62} (hx : rd_T62 l (q : Int) = x) {k : Int} {vA : Bool} (hk : x.f0 = k) (ha : k ≠ 1 → x.f2 = (a : Int)) (HA : k = 2 → Lk w A n c 101 a vA) (h4 : k ≠ 4) (h1 : 1 ≤ k) (h8 : k ≤ 8) : Lk w A n c 102 q (if k = 2 then vA else false) := by
 intro w0 hw0
 have hu := Tryz.underlying62
 have hcap := hl.cap
 have hq1 : (0 : Int) ≤ (q : Int) := by omega
 have hq2 : (q : Int) < (n : Int) := by omega
 by_cases h2 : k = 2
 ·subst h2
  have ha' := ha (by decide)
  have H1 := Aside0.mk ((HA rfl).up hw0)
  clear ha HA
  go_enter Tryz.func102, Tryz.ntmps102
  go_upto_region 1 with fail
  refine wp_world (fun V => V.cell? ⟨w0.heap.size, 0, none⟩ = some (.slice A n c) ∧ Go.RowKit.Below w0.heap.size w0 V) ⟨by simp, (Go.RowKit.Below.refl _ w0).alloc (Nat.le_refl _) _⟩ ?_
  rintro w1 ⟨z0, hb0⟩
  have HR1 := Aside0.mk (hl.below (hw0.trans (hb0.mono hw0.size)))
  obtain ⟨ad, A2, c2, eA, y0, y1, y2, y3, y4, y5, y6⟩ := at_T62 HR1.out.C (q : Int) (by omega) (by omega)
  subst eA
  rw [hx] at y0 y1 y2 y3 y4
  rw [hk] at y0
  rw [show ((q : Int)).toNat * 5 = q * 5 by omega] at y0 y1 y2 y3 y4
  clear y5 y6
  go_upto_region 2 with fail
  refine wp_world (fun V => V.cell? ⟨w0.heap.size, 0, none⟩ = some (.slice (some ad) n c) ∧ V.cell? ⟨w1.heap.size, 0, none⟩ = some (.int .i64 x.f0) ∧ V.cell? ⟨w1.heap.size, 3, none⟩ = some (.int .i64 x.f2) ∧ V.cell? ⟨w1.heap.size, 4, none⟩ = some (.int .i64 x.f3) ∧ Go.RowKit.Below w0.heap.size w0 V) ⟨(((Go.RowKit.Below.refl _ w1).alloc (Nat.le_refl _) _).cell (World.block_lt_of_cell? _ _ z0)).trans z0, by simp [hk], by first | (simp; done) | simp [ha'], by first | (simp; done) | simp [hb'], hb0.alloc hb0.size _⟩ ?_
  clear y0 y1 y2 y3 y4 z0 hb0
  generalize w1.heap.size = g1
  rintro w2 ⟨z0, z1, z3, z4, hb2⟩
  have HB2 := Aside0.mk hb2
  clear hb2
  rw [hk] at z1
  (try rw [ha'] at z3)
  go_wp2_with (first
   | (go_at_call 101; with_reducible refine (H1.out _ HB2.out).mono ?_; rintro e w3 ⟨rfl, hb⟩; replace HB2 := Aside0.mk (HB2.out.trans (hb.mono HB2.out.size)); replace z0 := mvc hb z0; replace z3 := mvc hb z3; replace z4 := mvc hb z4; clear hb)
   | fail)
  go_ret
  exact ⟨rfl, HB2.out⟩
 ·have d2 : (k == 2) = false := by simp [h2]
  have d4 : (k == 4) = false := by simp [h4]
  rw [if_neg h2]
  clear ha HA
  go_enter Tryz.func102, Tryz.ntmps102
  go_upto_region 1 with fail
  refine wp_world (fun V => V.cell? ⟨w0.heap.size, 0, none⟩ = some (.slice A n c) ∧ Go.RowKit.Below w0.heap.size w0 V) ⟨by simp, (Go.RowKit.Below.refl _ w0).alloc (Nat.le_refl _) _⟩ ?_
  rintro w1 ⟨z0, hb0⟩
  have HR1 := Aside0.mk (hl.below (hw0.trans (hb0.mono hw0.size)))
  obtain ⟨ad, A2, c2, eA, y0, y1, y2, y3, y4, y5, y6⟩ := at_T62 HR1.out.C (q : Int) (by omega) (by omega)
  subst eA
  rw [hx] at y0 y1 y2 y3 y4
  rw [hk] at y0
  rw [show ((q : Int)).toNat * 5 = q * 5 by omega] at y0 y1 y2 y3 y4
  clear y5 y6
  go_upto_region 2 with fail
  refine wp_world (fun V => V.cell? ⟨w0.heap.size, 0, none⟩ = some (.slice (some ad) n c) ∧ V.cell? ⟨w1.heap.size, 0, none⟩ = some (.int .i64 x.f0) ∧ V.cell? ⟨w1.heap.size, 3, none⟩ = some (.int .i64 x.f2) ∧ V.cell? ⟨w1.heap.size, 4, none⟩ = some (.int .i64 x.f3) ∧ Go.RowKit.Below w0.heap.size w0 V) ⟨(((Go.RowKit.Below.refl _ w1).alloc (Nat.le_refl _) _).cell (World.block_lt_of_cell? _ _ z0)).trans z0, by simp [hk], by first | (simp; done) | simp [ha'], by first | (simp; done) | simp [hb'], hb0.alloc hb0.size _⟩ ?_
  clear y0 y1 y2 y3 y4 z0 hb0
  generalize w1.heap.size = g1
  rintro w2 ⟨z0, z1, z3, z4, hb2⟩
  have HB2 := Aside0.mk hb2
  clear hb2
  rw [hk] at z1
  have mixed : Tryz.prog.follows .mixedOrders = true := by kernel_rfl
  have r1 := cell_regrown z1
  go_upto_region 4 with fail
  refine wp_region_quiet_below mixed (by kernel_rfl) ?_
  repeat (first | go_big_quiet_step (fail) | quiet_step (fail))
  refine wpQuiet_nil ?_
  intro _ hw'
  obtain ⟨⟨dq, osq⟩, hw''⟩ := hw'
  subst hw''
  go_wp2
  go_ret
  exact ⟨rfl, HB2.out.trans ((below_regrown w2 dq osq).mono HB2.out.size)⟩
set_option maxHeartbeats 8000000 in
set_option maxRecDepth 1000000 in
theorem always_or (hl : NRow w A n c l) {q a b a2 : Nat} (hq : q < n) (han : a < n) {x y : S62} (hx : rd_T62 l (q : Int) = x) (hk : x.f0 = 4) (ha' : x.f2 = (a : Int)) (hb' : x.f3 = (b : Int)) (hy : rd_T62 l (a : Int) = y) (hy2 : y.f0 = 2 → y.f2 = (a2 : Int)) {v vN hBA tB : Bool} (HN : y.f0 = 2 → Lk w A n c 101 a2 vN) (HH : Lh w A n c b a hBA) (HT : Lk w A n c 69 b tB)
  (hc : (y.f0 ≠ 2 ∧ v = false) ∨ (y.f0 = 2 ∧ vN = false ∧ v = false) ∨ (y.f0 = 2 ∧ vN = true ∧ hBA = false ∧ v = false) ∨ (y.f0 = 2 ∧ vN = true ∧ hBA = true ∧ v = tB)) : Lk w A n c 102 q v := by
 intro w0 hw0
 have hu := Tryz.underlying62
 have hcap := hl.cap
 have hq1 : (0 : Int) ≤ (q : Int) := by omega
 have hq2 : (q : Int) < (n : Int) := by omega
 have ha1 : (0 : Int) ≤ (a : Int) := by omega
 have ha2 : (a : Int) < (n : Int) := by omega
 have H2 := Aside0.mk (HH.up hw0)
 have H3 := Aside0.mk (HT.up hw0)
 clear HH HT
 go_enter Tryz.func102, Tryz.ntmps102
 go_upto_region 1 with fail
 refine wp_world (fun V => V.cell? ⟨w0.heap.size, 0, none⟩ = some (.slice A n c) ∧ Go.RowKit.Below w0.heap.size w0 V) ⟨by simp, (Go.RowKit.Below.refl _ w0).alloc (Nat.le_refl _) _⟩ ?_
 rintro w1 ⟨z0, hb0⟩
 have HR1 := Aside0.mk (hl.below (hw0.trans (hb0.mono hw0.size)))
 obtain ⟨ad, A2, c2, eA, y0, y1, y2, y3, y4, y5, y6⟩ := at_T62 HR1.out.C (q : Int) (by omega) (by omega)
 subst eA
 rw [hx] at y0 y1 y2 y3 y4
 rw [hk] at y0
 rw [show ((q : Int)).toNat * 5 = q * 5 by omega] at y0 y1 y2 y3 y4
 clear y5 y6
 go_upto_region 2 with fail
 refine wp_world (fun V => V.cell? ⟨w0.heap.size, 0, none⟩ = some (.slice (some ad) n c) ∧ V.cell? ⟨w1.heap.size, 0, none⟩ = some (.int .i64 x.f0) ∧ V.cell? ⟨w1.heap.size, 3, none⟩ = some (.int .i64 x.f2) ∧ V.cell? ⟨w1.heap.size, 4, none⟩ = some (.int .i64 x.f3) ∧ Go.RowKit.Below w0.heap.size w0 V) ⟨(((Go.RowKit.Below.refl _ w1).alloc (Nat.le_refl _) _).cell (World.block_lt_of_cell? _ _ z0)).trans z0, by simp [hk], by first | (simp; done) | simp [ha'], by first | (simp; done) | simp [hb'], hb0.alloc hb0.size _⟩ ?_
 clear y0 y1 y2 y3 y4 z0 hb0
 generalize w1.heap.size = g1
 rintro w2 ⟨z0, z1, z3, z4, hb2⟩
 have HB2 := Aside0.mk hb2
 clear hb2
 rw [hk] at z1
 rw [ha'] at z3
 rw [hb'] at z4
 obtain ⟨ad', A3, c3, eA, yk, y1, y2, yf, y4, y5, y6⟩ := at_T62 (hl.below (hw0.trans (HB2.out.mono hw0.size))).C (a : Int) ha1 ha2
 obtain rfl : ad = ad' := Option.some.inj eA
 rw [hy] at yk yf
 rw [show ((a : Int)).toNat * 5 = a * 5 by omega] at yk yf
 clear y1 y2 y4 y5 y6 eA hl hq hx hk ha' hb' HR1
 by_cases hy0 : y.f0 = 2
 ·rw [hy0] at yk
  rw [hy2 hy0] at yf
  have H1 := Aside0.mk ((HN hy0).up hw0)
  replace hc : (vN = false ∧ v = false) ∨ (vN = true ∧ hBA = false ∧ v = false) ∨ (vN = true ∧ hBA = true ∧ v = tB) := by
   rcases hc with h | h | h | h
   ·exact absurd hy0 h.1
   ·exact .inl h.2
   ·exact .inr (.inl h.2)
   ·exact .inr (.inr h.2)
  clear hy hy2 HN hy0 hw0
  have mixed : Tryz.prog.follows .mixedOrders = true := by kernel_rfl
  have r0 := cell_regrown z0
  have r1 := cell_regrown z1
  have r2 := cell_regrown z3
  have r3 := cell_regrown z4
  have r4 := cell_regrown yk
  have r5 := cell_regrown yf
  have c1 : ∀ d os, Calls Tryz.prog 101 #[.agg #[.slice (some ad) n c], .int .i64 (a2 : Int)] (grow (redrawn w2 d) os) fun e w'' => e = .returned (.bool vN) ∧ ∃ p : Regrown, w'' = grow (redrawn w2 p.d) p.os := fun d os => Calls.regrown_of (H1.out _ (HB2.out.trans ((below_regrown w2 d os).mono HB2.out.size)))
  have c2 : ∀ d os, Calls Tryz.prog 124 #[.agg #[.slice (some ad) n c], .int .i64 (b : Int), .int .i64 (a : Int)] (grow (redrawn w2 d) os) fun e w'' => e = .returned (.bool hBA) ∧ ∃ p : Regrown, w'' = grow (redrawn w2 p.d) p.os := fun d os => Calls.regrown_of (H2.out _ (HB2.out.trans ((below_regrown w2 d os).mono HB2.out.size)))
  have c3 : ∀ d os, Calls Tryz.prog 69 #[.agg #[.slice (some ad) n c], .int .i64 (b : Int)] (grow (redrawn w2 d) os) fun e w'' => e = .returned (.bool tB) ∧ ∃ p : Regrown, w'' = grow (redrawn w2 p.d) p.os := fun d os => Calls.regrown_of (H3.out _ (HB2.out.trans ((below_regrown w2 d os).mono HB2.out.size)))
  go_upto_region 4 with fail
  clear z0 z1 z3 z4 yk yf H1 H2 H3
  rcases hc with ⟨rfl, rfl⟩ | ⟨rfl, rfl, rfl⟩ | ⟨rfl, rfl, rfl⟩
  all_goals (
   refine wp_region_quiet_below mixed (by kernel_rfl) ?_
   repeat (first | go_big_quiet_step (first | exact c1 _ _ | exact c2 _ _ | exact c3 _ _) | quiet_step (first | exact c1 _ _ | exact c2 _ _ | exact c3 _ _))
   refine wpQuiet_nil ?_
   intro _ hw'
   obtain ⟨⟨dq, osq⟩, hw''⟩ := hw'
   subst hw''
   go_wp2
   go_ret
   exact ⟨rfl, HB2.out.trans ((below_regrown w2 dq osq).mono HB2.out.size)⟩)
 ·have d2 : (y.f0 == 2) = false := by simp [hy0]
  obtain rfl : v = false := by
   rcases hc with h | h | h | h
   ·exact h.2
   ·exact h.2.2
   ·exact h.2.2.2
   ·exact absurd h.1 hy0
  clear hy hy2 HN hc hw0 hy0
  generalize y.f0 = ky at *
  generalize y.f2 = fy at *
  have mixed : Tryz.prog.follows .mixedOrders = true := by kernel_rfl
  have r0 := cell_regrown z0
  have r1 := cell_regrown z1
  have r2 := cell_regrown z3
  have r3 := cell_regrown z4
  have r4 := cell_regrown yk
  have r5 := cell_regrown yf
  go_upto_region 4 with fail
  refine wp_region_quiet_below mixed (by kernel_rfl) ?_
  repeat (first | go_big_quiet_step (fail) | quiet_step (fail))
  refine wpQuiet_nil ?_
  intro _ hw'
  obtain ⟨⟨dq, osq⟩, hw''⟩ := hw'
  subst hw''
  go_wp2
  go_ret
  exact ⟨rfl, HB2.out.trans ((below_regrown w2 dq osq).mono HB2.out.size)⟩

theorem looks (h : NRow w A n c l) (hf : fitNs l) (hk : chkN l = 0) : ∀ q, q < n → ∃ f t a : Bool, ((rd_T62 l (q : Int)).f0 = 1 → f = true ∧ t = true) ∧ Lk w A n c 101 q f ∧ Lk w A n c 69 q t ∧ Lk w A n c 102 q a := by
 obtain ⟨fr, dp, hfr, _, _, _⟩ := chk_froms hk
 have hin := (chk_inL hk).1
 have hn := h.len
 intro q
 induction q using Nat.strongRecOn with
 | ind q ih =>
  intro hq
  have hI := hin q (by omega)
  rw [← rd62_get (by omega)] at hI
  obtain ⟨x, hx⟩ : ∃ x, rd_T62 l (q : Int) = x := ⟨_, rfl⟩
  rw [hx] at hI ⊢
  obtain ⟨i2, i3, k1, k8⟩ := hI
  -- the node's arms
  obtain ⟨a, b, ha, hb⟩ : ∃ a b : Nat, (x.f0 ≠ 1 → x.f2 = (a : Int) ∧ a < q) ∧ (two x.f0 → x.f3 = (b : Int) ∧ b < q) := ⟨x.f2.toNat, x.f3.toNat, fun h => by have := i2 h; omega, fun h => by have := i3 h; omega⟩
  have t1 : two x.f0 → x.f0 ≠ 1 := fun h => by unfold two at h; omega
  obtain ⟨vA, tA, aA, _, cA⟩ : ∃ f t a1 : Bool, True ∧ (x.f0 ≠ 1 → Lk w A n c 101 a f ∧ Lk w A n c 69 a t ∧ Lk w A n c 102 a a1) := by
   by_cases h1 : x.f0 = 1
   ·exact ⟨true, true, true, trivial, fun h => absurd h1 h⟩
   ·obtain ⟨f, t, a1, _, h2⟩ := ih a (ha h1).2 (by have := (ha h1).2; omega)
    exact ⟨f, t, a1, trivial, fun _ => h2⟩
  obtain ⟨vB, tB, hAB, hBA, cB⟩ : ∃ f t h1 h2 : Bool, (two x.f0 → Lk w A n c 101 b f ∧ Lk w A n c 69 b t ∧ Lh w A n c a b h1 ∧ Lh w A n c b a h2) := by
   by_cases h1 : two x.f0
   ·have h2 := (ha (t1 h1)).2
    have h3 := (hb h1).2
    obtain ⟨f, t, _, _, e1, e2, _⟩ := ih b h3 (by omega)
    exact ⟨f, t, _, _, fun _ => ⟨e1, e2, holds_look h hf hk hfr (by omega) (by omega), holds_look h hf hk hfr (by omega) (by omega)⟩⟩
   ·exact ⟨true, true, true, true, fun h => absurd h h1⟩
  obtain ⟨f, f1, cf⟩ : ∃ f, (x.f0 = 1 → f = true) ∧ Lk w A n c 101 q f := by
   have go := fun v => @found_go w A n c l h q a b hq x hx x.f0 v vA vB hAB hBA tA tB rfl (fun h => (ha h).1) (fun h => (hb h).1) (fun h => (cA h).1) (fun h => ⟨(cB h).1, (cA (t1 h)).2.1, (cB h).2.1, (cB h).2.2.1, (cB h).2.2.2⟩)
   have hkk : x.f0 = 1 ∨ x.f0 = 2 ∨ x.f0 = 3 ∨ x.f0 = 4 ∨ x.f0 = 5 ∨ x.f0 = 6 ∨ x.f0 = 7 ∨ x.f0 = 8 := by omega
   refine ⟨if x.f0 = 1 then true else if x.f0 = 5 ∨ x.f0 = 6 then vA else if x.f0 = 3 then vA && (hBA && tB) else if x.f0 = 4 then vA && (vB && (hAB && hBA)) else if x.f0 = 8 then vB && (hAB && tA) else false, fun h => by rw [if_pos h], go _ ?_⟩
   clear go cA cB ih ha hb t1 i2 i3
   generalize x.f0 = k at *
   rcases hkk with rfl | rfl | rfl | rfl | rfl | rfl | rfl | rfl <;> cases vA <;> cases vB <;> cases hAB <;> cases hBA <;> simp
  obtain ⟨t, t1', ct⟩ : ∃ t, (x.f0 = 1 → t = true) ∧ Lk w A n c 69 q t := by
   have go := fun v => @tested_go w A n c l h q a b hq x hx x.f0 v f aA tA tB rfl (fun h => (ha h).1) (fun h => (hb h).1) cf (fun h => (cA h).2) (fun h => (cB h).2.1)
   have hkk : x.f0 = 1 ∨ x.f0 = 2 ∨ x.f0 = 3 ∨ x.f0 = 4 ∨ x.f0 = 5 ∨ x.f0 = 6 ∨ x.f0 = 7 ∨ x.f0 = 8 := by omega
   refine ⟨if x.f0 = 2 then tA else if x.f0 = 3 ∨ x.f0 = 4 then (tA && tB) || f else if x.f0 = 7 then aA else f, fun h => by rw [h]; exact f1 h, go _ ?_⟩
   clear go cA cB ih ha hb t1 i2 i3 f1 cf
   generalize x.f0 = k at *
   rcases hkk with rfl | rfl | rfl | rfl | rfl | rfl | rfl | rfl <;> cases tA <;> cases tB <;> simp
  obtain ⟨a1, ca⟩ : ∃ a1, Lk w A n c 102 q a1 := by
   by_cases h4 : x.f0 = 4
   ·have hw : two x.f0 := by unfold two; omega
    obtain ⟨e1, e2⟩ := ha (t1 hw)
    obtain ⟨e3, e4⟩ := hb hw
    have hJ := hin a (by omega)
    rw [← rd62_get (by omega)] at hJ
    obtain ⟨y, hy⟩ : ∃ y, rd_T62 l (a : Int) = y := ⟨_, rfl⟩
    rw [hy] at hJ
    by_cases h2 : y.f0 = 2
    ·have h6 := hJ.1 (by omega)
     obtain ⟨vN, _, _, _, e5, _⟩ := ih y.f2.toNat (by omega) (by omega)
     refine ⟨vN && (hBA && tB), @always_or w A n c l h q a b y.f2.toNat hq (by omega) x y hx h4 e1 e3 hy (fun _ => by omega) _ vN hBA tB (fun _ => e5) (cB hw).2.2.2 (cB hw).2.1 ?_⟩
     cases vN <;> cases hBA <;> simp [h2]
    ·exact ⟨false, @always_or w A n c l h q a b 0 hq (by omega) x y hx h4 e1 e3 hy (fun h => absurd h h2) _ true hBA tB (fun h => absurd h h2) (cB hw).2.2.2 (cB hw).2.1 (.inl ⟨h2, rfl⟩)⟩
   ·exact ⟨_, always_no h hq hx rfl (fun h => (ha h).1) (fun h => (cA (by omega)).1) h4 k1 k8⟩
  exact ⟨f, t, a1, fun h => ⟨f1 h, t1' h⟩, cf, ct, ca⟩
end
end Go.Proofs.YtghommaokdhjmaaGreat.Sat
/- safe.Pattern, sat.Wrong of any pattern: an answer, the same in all later worlds; what it tells. -/
namespace Go.Proofs.YtghommaokdhjmaaGreat.Sat
open Go.RowKit Go.Lib Go.Sort Go.Proofs.SymP Go.Proofs.YtghommaokdhjmaaGreatW.PrintWords P FactC IRow Frm SpecM SpecB PSat PSpec CmpF BothB SortStr Str
section
variable {w : World} {A L : Option Addr} {n c lc : Nat} {l : List S62} {pn an : ByteArray} {ts : List S92}
structure PatW (w : World) (A L : Option Addr) (n c lc : Nat) (l : List S62) (pn an : ByteArray) (ts : List S92) : Prop where
 hl : NRow w L n lc l
 hf : fitNs l
 hA : Kd.C k92 w A ts.length ts
 hcap : ts.length ≤ c
 hx : fitA ⟨an, ts⟩
 hpn : pn.size ≤ 1000000
theorem PatW.below {W : World} (h : PatW w A L n c lc l pn an ts) (hb : Go.RowKit.Below w.heap.size w W) : PatW W A L n c lc l pn an ts := ⟨h.hl.below hb, h.hf, Kd.C_below h.hA hb, h.hcap, h.hx, h.hpn⟩
def rightB (l : List S62) (pn an : ByteArray) (ts : List S92) : Bool := nameP pn && (matP an ts == 0 && chkN l == 0)
def subB (l : List S62) (ts : List S92) : Bool := (varsN l).all fun s => (SpecM.varsL [] ts).any fun y => decide (s = y)
set_option maxHeartbeats 4000000 in
set_option maxRecDepth 1000000 in
theorem rightG (h : PatW w A L n c lc l pn an ts) : Calls Tryz.prog 68 #[.agg #[.string pn, .string an, .slice A ts.length c, .slice L n lc]] w fun e w' => e = .returned (.bool (rightB l pn an ts)) ∧ Go.RowKit.Below w.heap.size w w' := by
 have hu := Tryz.underlying27
 have H1 : Aside0 (∀ W, Go.RowKit.Below w.heap.size w W → Calls Tryz.prog 86 #[.string pn] W fun e w' => e = .returned (.bool (nameP pn)) ∧ Go.RowKit.Below W.heap.size W w') := ⟨fun W hW => by
  obtain ⟨k, hk⟩ := (ev_name pn h.hpn).rounds
  exact fact_Name.calls k pn _ W hk⟩
 have H2 : Aside0 (∀ W, Go.RowKit.Below w.heap.size w W → Calls Tryz.prog 58 #[.agg #[.string an, .slice A ts.length c]] W fun e w' => e = .returned (.int .i64 (matP an ts)) ∧ Go.RowKit.Below W.heap.size W w') := ⟨fun W hW => match_Check.calls an A c ts _ W (Kd.C_below h.hA hW) h.hcap (by unfold match_Check.f; rw [if_pos ⟨h.hx.1, h.hx.2.1⟩])⟩
 have H3 : Aside0 (∀ W, Go.RowKit.Below w.heap.size w W → Calls Tryz.prog 32 #[.slice L n lc] W fun e w' => e = .returned (.int .i64 (chkN l)) ∧ Go.RowKit.Below W.heap.size W w') := ⟨fun W hW => check_calls (h.hl.below hW) h.hf⟩
 clear h
 obtain ⟨v, hv⟩ : ∃ v, rightB l pn an ts = v := ⟨_, rfl⟩
 rw [hv]
 unfold rightB at hv
 generalize nameP pn = b1 at *
 generalize matP an ts = m1 at *
 generalize chkN l = k1 at *
 have hc : (b1 = false ∧ v = false) ∨ (b1 = true ∧ (m1 == 0) = false ∧ v = false) ∨ (b1 = true ∧ m1 = 0 ∧ (k1 == 0) = false ∧ v = false) ∨ (b1 = true ∧ m1 = 0 ∧ k1 = 0 ∧ v = true) := by
  subst hv
  by_cases hm : m1 = 0 <;> by_cases hk : k1 = 0 <;> cases b1 <;> simp [hm, hk]
 clear hv
 have hb0 : Go.RowKit.Below w.heap.size w (w.alloc (.cells #[.string pn, .string an, .slice A ts.length c, .slice L n lc] 27)) := (Go.RowKit.Below.refl _ w).alloc (Nat.le_refl _) _
 go_enter Tryz.func68, Tryz.ntmps68
 go_upto_region 1 with fail
 refine wp_world (fun V => V.cell? ⟨w.heap.size, 0, none⟩ = some (.string pn) ∧ V.cell? ⟨w.heap.size, 1, none⟩ = some (.string an) ∧ V.cell? ⟨w.heap.size, 2, none⟩ = some (.slice A ts.length c) ∧ V.cell? ⟨w.heap.size, 3, none⟩ = some (.slice L n lc) ∧ Go.RowKit.Below w.heap.size w V) ⟨by simp, by simp, by simp, by simp, hb0⟩ ?_
 clear hb0
 rintro w0 ⟨z0, z1, z2, z3, hb0⟩
 have HB := Aside0.mk hb0
 clear hb0
 rcases hc with ⟨rfl, rfl⟩ | ⟨rfl, d1, rfl⟩ | ⟨rfl, rfl, d2, rfl⟩ | ⟨rfl, rfl, rfl, rfl⟩
 all_goals (
  go_wp2_with (first
   | (go_at_call 86; with_reducible refine (H1.out _ HB.out).mono ?_; rintro e w1 ⟨rfl, hb⟩; replace HB := Aside0.mk (HB.out.trans (hb.mono HB.out.size)); replace z1 := mvc hb z1; replace z2 := mvc hb z2; replace z3 := mvc hb z3; clear hb)
   | (go_at_call 58; with_reducible refine (H2.out _ HB.out).mono ?_; rintro e w1 ⟨rfl, hb⟩; replace HB := Aside0.mk (HB.out.trans (hb.mono HB.out.size)); replace z1 := mvc hb z1; replace z2 := mvc hb z2; replace z3 := mvc hb z3; clear hb)
   | (go_at_call 32; with_reducible refine (H3.out _ HB.out).mono ?_; rintro e w1 ⟨rfl, hb⟩; replace HB := Aside0.mk (HB.out.trans (hb.mono HB.out.size)); replace z1 := mvc hb z1; replace z2 := mvc hb z2; replace z3 := mvc hb z3; clear hb)
   | fail)
  go_ret
  exact ⟨rfl, HB.out⟩)
set_option maxHeartbeats 4000000 in
set_option maxRecDepth 1000000 in
theorem pattern_no (h : PatW w A L n c lc l pn an ts) (hr : rightB l pn an ts = false) : Calls Tryz.prog 38 #[.agg #[.string pn, .string an, .slice A ts.length c, .slice L n lc]] w fun e w' => e = .returned (.int .i64 17) ∧ Go.RowKit.Below w.heap.size w w' := by
 have hu := Tryz.underlying27
 have hb0 : Go.RowKit.Below w.heap.size w (w.alloc (.cells #[.string pn, .string an, .slice A ts.length c, .slice L n lc] 27)) := (Go.RowKit.Below.refl _ w).alloc (Nat.le_refl _) _
 have H1 := Aside0.mk (rightG (h.below hb0))
 rw [hr] at H1
 have HB0 := Aside0.mk hb0
 clear h hr hb0
 go_enter Tryz.func38, Tryz.ntmps38
 go_wp2_with (first
  | (go_at_call 68; with_reducible refine H1.out.mono ?_; rintro e w1 ⟨rfl, hb⟩; have HB1 := Aside0.mk (HB0.out.trans (hb.mono HB0.out.size)); clear hb)
  | fail)
 go_ret
 exact ⟨rfl, HB1.out⟩
set_option maxHeartbeats 8000000 in
set_option maxRecDepth 1000000 in
theorem pattern_yes (h : PatW w A L n c lc l pn an ts) (hr : rightB l pn an ts = true) (hk : chkN l = 0) {t : Bool} (HT : Lk w L n lc 69 (n - 1) t) {z : Int} (hz : (t = false ∧ z = 10) ∨ (t = true ∧ subB l ts = false ∧ z = 10) ∨ (t = true ∧ subB l ts = true ∧ z = 0)) : Calls Tryz.prog 38 #[.agg #[.string pn, .string an, .slice A ts.length c, .slice L n lc]] w fun e w' => e = .returned (.int .i64 z) ∧ Go.RowKit.Below w.heap.size w w' := by
 have hu := Tryz.underlying27
 have hn := h.hl.len
 obtain ⟨_, hne, hn40⟩ := chk_inL hk
 have hn1 : 1 ≤ n := by have := List.length_pos_iff.2 hne; omega
 have H1 : Aside0 (∀ W, Go.RowKit.Below w.heap.size w W → Calls Tryz.prog 68 #[.agg #[.string pn, .string an, .slice A ts.length c, .slice L n lc]] W fun e w' => e = .returned (.bool true) ∧ Go.RowKit.Below W.heap.size W w') := ⟨fun W hW => hr ▸ rightG (h.below hW)⟩
 have H2 : Aside0 (∀ W, Go.RowKit.Below w.heap.size w W → Calls Tryz.prog 69 #[.agg #[.slice L n lc], .int .i64 ((n : Int) - 1)] W fun e w' => e = .returned (.bool t) ∧ Go.RowKit.Below W.heap.size W w') := ⟨by rw [show (n : Int) - 1 = ((n - 1 : Nat) : Int) by omega]; exact HT⟩
 have H3 : Aside0 (∀ W, Go.RowKit.Below w.heap.size w W → Calls Tryz.prog 66 #[.agg #[.slice L n lc], .int .i64 ((n : Int) - 1)] W fun e w' => (∃ U m uc us, e = .returned (.slice U m uc) ∧ SRd w' U m uc us ∧ m ≤ 1000000 ∧ us.all (inS (SpecM.varsL [] ts)) = subB l ts) ∧ Go.RowKit.Below W.heap.size W w') := ⟨fun W hW => by
  refine (vars_calls (h.hl.below hW) h.hf hk).mono ?_
  rintro e w' ⟨⟨u, us, rfl, hm, hl2, ho⟩, hb⟩
  obtain ⟨U, uc, rfl⟩ := own_slice ho
  refine ⟨⟨U, us.length, uc, us, rfl, SRd.of ho, hl2, ?_⟩, hb⟩
  have := all_same (b := SpecM.varsL [] ts) hm (fun _ => Iff.rfl)
  rw [List.map_map] at this
  unfold subB
  simpa [Function.comp_def] using this⟩
 have hlen : (SpecM.varsL [] ts).length ≤ 1000000 := by have := varsL_len ts []; have := h.hx.2.2; simp at *; omega
 have H4 : Aside0 (∀ W, Go.RowKit.Below w.heap.size w W → Calls Tryz.prog 71 #[.agg #[.string an, .slice A ts.length c]] W fun e w' => ∃ V2 vc, e = .returned (.slice V2 (SpecM.varsL [] ts).length vc) ∧ (SpecM.varsL [] ts).length ≤ vc ∧ Kd.C Kd.string w' V2 (SpecM.varsL [] ts).length (SpecM.varsL [] ts) ∧ Go.RowKit.Below W.heap.size W w') := ⟨fun W hW => by
  obtain ⟨k, hk⟩ := (SpecM.ev_vars an (ts := ts) (by have := h.hx.2.2; show ts.length ≤ _; simp at this; omega)).rounds
  refine (match_Vars.calls k an A c ts _ W (Kd.C_below h.hA hW) h.hcap hk).mono ?_
  rintro e w' ⟨v, rfl, hR, hb⟩
  obtain ⟨V2, vc, rfl, q1, q2⟩ := Kd.R_reads hR
  exact ⟨V2, vc, rfl, q1, q2, hb⟩⟩
 have hlc := h.hl.cap
 generalize subB l ts = sb at *
 clear h HT hk hr hne
 generalize SpecM.varsL [] ts = vs at *
 have HLen := Aside0.mk hlen
 clear hlen
 have hb0 : Go.RowKit.Below w.heap.size w (w.alloc (.cells #[.string pn, .string an, .slice A ts.length c, .slice L n lc] 27)) := (Go.RowKit.Below.refl _ w).alloc (Nat.le_refl _) _
 have kw0 : IntKind.i64.wrap ((n : Int) - 1) = (n : Int) - 1 := kwrap (by omega) (by omega)
 go_enter Tryz.func38, Tryz.ntmps38
 go_upto_region 1 with fail
 refine wp_world (fun V => V.cell? ⟨w.heap.size, 0, none⟩ = some (.string pn) ∧ V.cell? ⟨w.heap.size, 1, none⟩ = some (.string an) ∧ V.cell? ⟨w.heap.size, 2, none⟩ = some (.slice A ts.length c) ∧ V.cell? ⟨w.heap.size, 3, none⟩ = some (.slice L n lc) ∧ Go.RowKit.Below w.heap.size w V) ⟨by simp, by simp, by simp, by simp, hb0⟩ ?_
 clear hb0
 rintro w0 ⟨z0, z1, z2, z3, hb0⟩
 have HB0 := Aside0.mk hb0
 clear hb0
 go_wp2_with (first
  | (go_at_call 68; with_reducible refine (H1.out _ HB0.out).mono ?_; rintro e w1 ⟨rfl, hb⟩; have HB1 := Aside0.mk (HB0.out.trans (hb.mono HB0.out.size)); replace z1 := mvc hb z1; replace z2 := mvc hb z2; replace z3 := mvc hb z3; clear hb)
  | fail)
 clear z0
 go_region_held3 (fun w' => w'.cell? ⟨w.heap.size, 3, none⟩ = some (.slice L n lc)) (first | assumption | (apply cell_al; assumption) | go_keep) (fail)
 all_goals go_wp2
 have hd1 : Go.RowKit.Below w1.heap.size w1 w1.drew := below_drew1 (Go.RowKit.Below.refl _ _)
 have hb2 : Go.RowKit.Below w1.heap.size w1 (w1.drew.alloc (.cells #[.slice L n lc] 98)) := hd1.alloc hd1.size _
 refine wp_world (fun V => V.cell? ⟨w1.heap.size, 0, none⟩ = some (.slice L n lc) ∧ V.cell? ⟨w.heap.size, 1, none⟩ = some (.string an) ∧ V.cell? ⟨w.heap.size, 2, none⟩ = some (.slice A ts.length c) ∧ Go.RowKit.Below w.heap.size w V) ⟨by simp, mvc hb2 z1, mvc hb2 z2, HB1.out.trans (hb2.mono HB1.out.size)⟩ ?_
 clear hd1 hb2 z1 z2 z3
 generalize w1.heap.size = gk
 rintro w3 ⟨k0, z1, z2, hb3⟩
 have HB3 := Aside0.mk hb3
 clear hb3
 have hd3 : Go.RowKit.Below w3.heap.size w3 w3.drew := below_drew1 (Go.RowKit.Below.refl _ _)
 have H2' : Aside0 (Calls Tryz.prog 69 #[.agg #[.slice L n lc], .int .i64 ((n : Int) - 1)] w3.drew fun e w' => e = .returned (.bool t) ∧ Go.RowKit.Below w3.heap.size w3 w') := ⟨(H2.out w3.drew (HB3.out.trans (hd3.mono HB3.out.size))).mono fun e w' hh => ⟨hh.1, hd3.trans hh.2⟩⟩
 rcases hz with ⟨rfl, rfl⟩ | hz
 ·have mixed : Tryz.prog.follows .mixedOrders = true := by kernel_rfl
  have r0 := cell_regrown k0
  have c1 : ∀ d os, Calls Tryz.prog 69 #[.agg #[.slice L n lc], .int .i64 ((n : Int) - 1)] (grow (redrawn w3 d) os) fun e w'' => e = .returned (.bool false) ∧ ∃ p : Regrown, w'' = grow (redrawn w3 p.d) p.os := fun d os => Calls.regrown_of (H2.out _ (HB3.out.trans ((below_regrown w3 d os).mono HB3.out.size)))
  clear H1 H2 H3 H4 H2'
  refine wp_region_quiet_below mixed (by kernel_rfl) ?_
  repeat (first | go_big_quiet_step (exact c1 _ _) | quiet_step (exact c1 _ _))
  refine wpQuiet_nil ?_
  intro _ hw'
  obtain ⟨⟨dq, osq⟩, hw''⟩ := hw'
  subst hw''
  go_wp2
  go_ret
  exact ⟨rfl, HB3.out.trans ((below_regrown w3 dq osq).mono HB3.out.size)⟩
 rcases hz with ⟨rfl, rfl, rfl⟩ | ⟨rfl, rfl, rfl⟩
 all_goals (
  go_region_held3 (fun w' => w'.cell? ⟨gk, 0, none⟩ = some (.slice L n lc) ∧ w'.cell? ⟨w.heap.size, 1, none⟩ = some (.string an) ∧ w'.cell? ⟨w.heap.size, 2, none⟩ = some (.slice A ts.length c))
   (first | (refine ⟨?_, ?_, ?_⟩ <;> assumption) | go_keep)
   (first
    | (go_at_call 69; (with_reducible refine H2'.out.mono ?_); rintro e w4 ⟨rfl, hb⟩; have HB4 := Aside0.mk (HB3.out.trans (hb.mono HB3.out.size)); replace k0 := mvc hb k0; replace z1 := mvc hb z1; replace z2 := mvc hb z2; clear hb)
    | (go_at_call 66; (with_reducible refine (H3.out _ HB4.out).mono ?_); rintro e w5 ⟨⟨U, m, uc, us, rfl, hU, hm, hus⟩, hb⟩; have HB5 := Aside0.mk (HB4.out.trans (hb.mono HB4.out.size)); have HU := Aside0.mk (And.intro hU (And.intro hm hus)); replace k0 := mvc hb k0; replace z1 := mvc hb z1; replace z2 := mvc hb z2; clear hb hU hm hus)
    | (go_at_call 71; (with_reducible refine (H4.out _ HB5.out).mono ?_); rintro e w6 ⟨V2, vc, rfl, hv1, hv2, hb⟩; have HB6 := Aside0.mk (HB5.out.trans (hb.mono HB5.out.size)); have HV := Aside0.mk (And.intro hv1 hv2); have HU2 := Aside0.mk (HU.out.1.below hb); replace k0 := mvc hb k0; replace z1 := mvc hb z1; replace z2 := mvc hb z2; clear hb hv1 hv2)
    | (go_at_call 70; (with_reducible refine (within_calls HU2.out HV.out.2 HV.out.1 HLen.out HU.out.2.1).mono ?_); (try rw [HU.out.2.2]); rintro e w7 ⟨rfl, hb⟩; have HB7 := Aside0.mk (HB6.out.trans (hb.mono HB6.out.size)); replace k0 := mvc hb k0; replace z1 := mvc hb z1; replace z2 := mvc hb z2; clear hb)
    | fail)
  all_goals go_wp2
  all_goals go_ret
  all_goals first
   | exact ⟨rfl, HB7.out⟩
   | exact ⟨rfl, HB4.out⟩)
theorem patternG (h : PatW w A L n c lc l pn an ts) : ∃ z : Int, (z = 0 → rightB l pn an ts = true ∧ subB l ts = true) ∧ (rightB l pn an ts = true → subB l ts = true → n = 1 → (rd_T62 l ((0 : Nat) : Int)).f0 = 1 → z = 0) ∧ ∀ W, Go.RowKit.Below w.heap.size w W → Calls Tryz.prog 38 #[.agg #[.string pn, .string an, .slice A ts.length c, .slice L n lc]] W fun e w' => e = .returned (.int .i64 z) ∧ Go.RowKit.Below W.heap.size W w' := by
 by_cases hr : rightB l pn an ts = true
 ·have hk : chkN l = 0 := by
   unfold rightB at hr
   simp at hr
   exact hr.2.2
  obtain ⟨_, hne, _⟩ := chk_inL hk
  have hn1 : n - 1 < n := by have := List.length_pos_iff.2 hne; have := h.hl.len; omega
  obtain ⟨f, t, a, h1, _, ht, _⟩ := looks h.hl h.hf hk (n - 1) hn1
  have go := fun z hz W hW => @pattern_yes W A L n c lc l pn an ts (h.below hW) hr hk t (ht.up hW) z hz
  cases t with
  | false => exact ⟨10, fun e => absurd e (by decide), fun _ _ e1 e2 => by
    subst e1
    exact absurd (h1 e2).2 (by decide), go 10 (.inl ⟨rfl, rfl⟩)⟩
  | true =>
   cases hs : subB l ts with
   | false => exact ⟨10, fun e => absurd e (by decide), fun _ e => absurd e (by decide), go 10 (.inr (.inl ⟨rfl, hs, rfl⟩))⟩
   | true => exact ⟨0, fun _ => ⟨hr, rfl⟩, fun _ _ _ _ => rfl, go 0 (.inr (.inr ⟨rfl, hs, rfl⟩))⟩
 ·have hr' : rightB l pn an ts = false := by simpa using hr
  exact ⟨17, fun e => absurd e (by decide), fun e => absurd e hr, fun W hW => pattern_no (h.below hW) hr'⟩
set_option maxHeartbeats 8000000 in
set_option maxRecDepth 1000000 in
theorem wrongG {T : Option Addr} {tn tc p : Nat} {t : List S58} {bs r : List S66} {z tr er : Int} {m s is : Bool} (h : PatW w A L n c lc l pn an ts) (hz : ∀ W, Go.RowKit.Below w.heap.size w W → Calls Tryz.prog 38 #[.agg #[.string pn, .string an, .slice A ts.length c, .slice L n lc]] W fun e w' => e = .returned (.int .i64 z) ∧ Go.RowKit.Below W.heap.size W w') (hzk : z = 0 → chkN l = 0) (ht : TRow w T tn tc t) (hft : ∀ y ∈ t, fitF y) (htn : tn ≤ 1000000) (htr : trP t = tr) (hp : p < tn)
  (hone : oneP an ts (rd_T58 t (p : Int)).f0 (rd_T58 t (p : Int)).f1 [] = (bs, m)) (hbs : fitB bs = true) (hsem : semP (evP t bs) l p = s)
  (hc : (z ≠ 0 ∧ r = [] ∧ is = false ∧ er = z) ∨ (z = 0 ∧ tr ≠ 0 ∧ r = [] ∧ is = false ∧ er = tr) ∨ (z = 0 ∧ tr = 0 ∧ m = false ∧ r = [] ∧ is = false ∧ er = 0) ∨ (z = 0 ∧ tr = 0 ∧ m = true ∧ s = true ∧ r = [] ∧ is = false ∧ er = 0) ∨ (z = 0 ∧ tr = 0 ∧ m = true ∧ s = false ∧ r = bs ∧ is = true ∧ er = 0)) :
  Calls Tryz.prog 15 #[.agg #[.string pn, .string an, .slice A ts.length c, .slice L n lc], .slice T tn tc, .int .i64 (p : Int)] w fun e w' => (∃ V vc, e = .returned (.tuple #[.slice V r.length vc, .bool is, .int .i64 er]) ∧ r.length ≤ vc ∧ Kd.C k66 w' V r.length r) ∧ Go.RowKit.Below w.heap.size w w' := by
 have hu := Tryz.underlying27
 have hu2 := Tryz.underlying58
 have hu3 := Tryz.underlying25
 have H1 := Aside0.mk hz
 have H2 : Aside0 (∀ W, Go.RowKit.Below w.heap.size w W → Calls Tryz.prog 33 #[.slice T tn tc] W fun e w' => e = .returned (.int .i64 tr) ∧ Go.RowKit.Below W.heap.size W w') := ⟨fun W hW => by
  have h := ht.below hW
  obtain rfl := ht.len
  obtain ⟨k, hk⟩ := (ev_trace hft htn).rounds
  rw [htr] at hk
  exact trace_Check.calls k T tc t _ W h.C h.cap hk⟩
 obtain ⟨ad, A1, c1, eT, y0, y1, y2, y3⟩ := at_T58 ht.C (p : Int) (by omega) (by omega)
 have hy : fitF (rd_T58 t (p : Int)) := by
  have hlt : p < t.length := by rw [ht.len]; exact hp
  rw [rd58_get hlt]
  exact hft _ (List.getElem_mem hlt)
 generalize rd_T58 t (p : Int) = y at *
 rw [show ((p : Int)).toNat * 2 = p * 2 by omega] at y0 y1
 have H3 : Aside0 (∀ W, Go.RowKit.Below w.heap.size w W → Calls Tryz.prog 28 #[.agg #[.string an, .slice A ts.length c], .agg #[.string y.f0, .slice A1 y.f1.length c1], .slice none 0 0] W fun e w' => ∃ V vc, e = .returned (.tuple #[.slice V bs.length vc, .bool m]) ∧ (bs.length ≤ vc ∧ Kd.C k66 w' V bs.length bs) ∧ Go.RowKit.Below W.heap.size W w') := ⟨fun W hW => by
  have hc := match_One.calls an A c ts y.f0 A1 c1 y.f1 none 0 [] bs m W (Kd.C_below h.hA hW) h.hcap (Kd.C_below y3 hW) y2 ⟨rfl, Nat.zero_le _, fun h => absurd (show 0 < 0 from h) (Nat.lt_irrefl 0)⟩ (Nat.le_refl _) (by unfold match_One.f; rw [if_pos ⟨⟨h.hx.1, h.hx.2.1⟩, ⟨hy.1, hy.2.1⟩, rfl, Nat.zero_le _⟩, hone])
  refine hc.mono ?_
  rintro e w' ⟨v, rfl, hR, hb⟩
  obtain ⟨V, vc, rfl, q1, q2⟩ := Kd.R_reads hR
  exact ⟨V, vc, rfl, ⟨q1, q2⟩, hb⟩⟩
 have H4 : Aside0 (z = 0 → ∀ W V vc, Go.RowKit.Below w.heap.size w W → bs.length ≤ vc → Kd.C k66 W V bs.length bs → Calls Tryz.prog 37 #[.slice L n lc, .slice T tn tc, .int .i64 (p : Int), .slice V bs.length vc] W fun e w' => e = .returned (.bool s) ∧ Go.RowKit.Below W.heap.size W w') := ⟨fun h0 W V vc hW q1 q2 => by
  have hci := chk_inL (hzk h0)
  have := see_calls (h.hl.below hW) (ht.below hW) ⟨rfl, q1, q2⟩ h.hf hci.1 hci.2.1 hbs (fun y hy => (hft y hy).2.2) hp htn
  rwa [hsem] at this⟩
 have htc := ht.cap
 have d0 : decide ((p : Int) < 0) = false := decide_eq_false (by omega)
 have d0' : ¬ (p : Int) < 0 := by omega
 have d1 : decide ((tn : Int) ≤ (p : Int)) = false := decide_eq_false (by omega)
 have hpz : (p : Int) < (tn : Int) := by omega
 subst eT
 clear h ht hft htr hone hbs hsem hy hz hzk y2 y3
 have hb0 : Go.RowKit.Below w.heap.size w (w.alloc (.cells #[.string pn, .string an, .slice A ts.length c, .slice L n lc] 27)) := (Go.RowKit.Below.refl _ w).alloc (Nat.le_refl _) _
 go_enter Tryz.func15, Tryz.ntmps15
 go_upto_region 1 with fail
 refine wp_world (fun V => V.cell? ⟨w.heap.size, 0, none⟩ = some (.string pn) ∧ V.cell? ⟨w.heap.size, 1, none⟩ = some (.string an) ∧ V.cell? ⟨w.heap.size, 2, none⟩ = some (.slice A ts.length c) ∧ V.cell? ⟨w.heap.size, 3, none⟩ = some (.slice L n lc) ∧ V.cell? (ad.add (p * 2)) = some (.string y.f0) ∧ V.cell? ⟨(ad.add (p * 2)).block, (ad.add (p * 2)).off + 1, none⟩ = some (.slice A1 y.f1.length c1) ∧ Go.RowKit.Below w.heap.size w V) ⟨by simp, by simp, by simp, by simp, mvc hb0 y0, mvc hb0 y1, hb0⟩ ?_
 clear hb0 y0 y1
 rintro w0 ⟨z0, z1, z2, z3, y0, y1, hb0⟩
 have HB0 := Aside0.mk hb0
 clear hb0
 rcases hc with ⟨d, rfl, rfl, rfl⟩ | ⟨rfl, d, rfl, rfl, rfl⟩ | hc
 iterate 2 (
  have d2 := beq_false_of_ne d
  have d3 := bne_iff_ne.2 d
  go_wp2_with (first
   | (go_at_call 38; with_reducible refine (H1.out _ HB0.out).mono ?_; rintro e w1 ⟨rfl, hb⟩; replace HB0 := Aside0.mk (HB0.out.trans (hb.mono HB0.out.size)); replace z1 := mvc hb z1; replace z2 := mvc hb z2; replace z3 := mvc hb z3; replace y0 := mvc hb y0; replace y1 := mvc hb y1; clear hb)
   | (go_at_call 33; with_reducible refine (H2.out _ HB0.out).mono ?_; rintro e w1 ⟨rfl, hb⟩; replace HB0 := Aside0.mk (HB0.out.trans (hb.mono HB0.out.size)); replace z1 := mvc hb z1; replace z2 := mvc hb z2; replace z3 := mvc hb z3; replace y0 := mvc hb y0; replace y1 := mvc hb y1; clear hb)
   | fail)
  go_ret3
  exact ⟨⟨none, 0, rfl, Nat.zero_le _, ⟨rfl, Nat.zero_le _, fun h => absurd h (Nat.lt_irrefl 0)⟩⟩, HB0.out⟩)
 have hz0 : z = 0 ∧ tr = 0 := by
  rcases hc with h | h | h
  ·exact ⟨h.1, h.2.1⟩
  ·exact ⟨h.1, h.2.1⟩
  ·exact ⟨h.1, h.2.1⟩
 obtain ⟨rfl, rfl⟩ := hz0
 replace hc : (m = false ∧ r = [] ∧ is = false ∧ er = 0) ∨ (m = true ∧ s = true ∧ r = [] ∧ is = false ∧ er = 0) ∨ (m = true ∧ s = false ∧ r = bs ∧ is = true ∧ er = 0) := by
  rcases hc with h | h | h
  ·exact .inl h.2.2
  ·exact .inr (.inl h.2.2)
  ·exact .inr (.inr h.2.2)
 replace H4 := Aside0.mk (H4.out rfl)
 go_upto_region 8 with (first
   | (go_at_call 38; with_reducible refine (H1.out _ HB0.out).mono ?_; rintro e w1 ⟨rfl, hb⟩; replace HB0 := Aside0.mk (HB0.out.trans (hb.mono HB0.out.size)); replace z1 := mvc hb z1; replace z2 := mvc hb z2; replace z3 := mvc hb z3; replace y0 := mvc hb y0; replace y1 := mvc hb y1; clear hb)
   | (go_at_call 33; with_reducible refine (H2.out _ HB0.out).mono ?_; rintro e w1 ⟨rfl, hb⟩; replace HB0 := Aside0.mk (HB0.out.trans (hb.mono HB0.out.size)); replace z1 := mvc hb z1; replace z2 := mvc hb z2; replace z3 := mvc hb z3; replace y0 := mvc hb y0; replace y1 := mvc hb y1; clear hb)
   | fail)
 refine wp_world (fun V => V.cell? ⟨w.heap.size, 1, none⟩ = some (.string an) ∧ V.cell? ⟨w.heap.size, 2, none⟩ = some (.slice A ts.length c) ∧ V.cell? ⟨w.heap.size, 3, none⟩ = some (.slice L n lc) ∧ V.cell? (ad.add (p * 2)) = some (.string y.f0) ∧ V.cell? ⟨(ad.add (p * 2)).block, (ad.add (p * 2)).off + 1, none⟩ = some (.slice A1 y.f1.length c1) ∧ Go.RowKit.Below w.heap.size w V) ⟨z1, z2, z3, y0, y1, HB0.out⟩ ?_
 clear z1 z2 z3 y0 y1 HB0
 rintro w2 ⟨z1, z2, z3, y0, y1, hb2⟩
 have HB0 := Aside0.mk hb2
 clear hb2
 have hd2 : Go.RowKit.Below w2.heap.size w2 w2.drew := below_drew1 (Go.RowKit.Below.refl _ _)
 have H3' : Aside0 (Calls Tryz.prog 28 #[.agg #[.string an, .slice A ts.length c], .agg #[.string y.f0, .slice A1 y.f1.length c1], .slice none 0 0] w2.drew fun e w' => ∃ V vc, e = .returned (.tuple #[.slice V bs.length vc, .bool m]) ∧ (bs.length ≤ vc ∧ Kd.C k66 w' V bs.length bs) ∧ Go.RowKit.Below w2.heap.size w2 w') := ⟨(H3.out w2.drew (HB0.out.trans (hd2.mono HB0.out.size))).mono fun e w' hh => by
  obtain ⟨V, vc, h1, h2, h3⟩ := hh
  exact ⟨V, vc, h1, h2, hd2.trans h3⟩⟩
 clear H3
 rcases hc with ⟨rfl, rfl, rfl, rfl⟩ | ⟨rfl, rfl, rfl, rfl, rfl⟩ | ⟨rfl, rfl, rfl, rfl, rfl⟩
 all_goals (
  go_region_held3 (fun w' => w'.cell? ⟨w.heap.size, 1, none⟩ = some (.string an) ∧ w'.cell? ⟨w.heap.size, 2, none⟩ = some (.slice A ts.length c) ∧ w'.cell? (ad.add (p * 2)) = some (.string y.f0) ∧ w'.cell? ⟨(ad.add (p * 2)).block, (ad.add (p * 2)).off + 1, none⟩ = some (.slice A1 y.f1.length c1))
   (first | (refine ⟨?_, ?_, ?_, ?_⟩ <;> assumption) | go_keep)
   (first
    | (go_at_call 28; (with_reducible refine H3'.out.mono ?_); rintro e w3 ⟨V, vc, rfl, hV, hb⟩; have HB3 := Aside0.mk (HB0.out.trans (hb.mono HB0.out.size)); have HV := Aside0.mk hV; replace z1 := mvc hb z1; replace z2 := mvc hb z2; replace z3 := mvc hb z3; replace y0 := mvc hb y0; replace y1 := mvc hb y1; clear hb hV)
    | fail)
  all_goals (
   go_wp2_with (first
    | (go_at_call 37; (with_reducible refine (H4.out _ V vc HB3.out HV.out.1 HV.out.2).mono ?_); rintro e w4 ⟨rfl, hb⟩; have HB4 := Aside0.mk (HB3.out.trans (hb.mono HB3.out.size)); have HV4 := Aside0.mk (Kd.C_below HV.out.2 hb); clear hb)
    | fail)
   go_ret3
   first
    | exact ⟨⟨_, _, rfl, HV.out.1, HV4.out⟩, HB4.out⟩
    | exact ⟨⟨none, 0, rfl, Nat.zero_le _, ⟨rfl, Nat.zero_le _, fun h => absurd h (Nat.lt_irrefl 0)⟩⟩, HB4.out⟩
    | exact ⟨⟨none, 0, rfl, Nat.zero_le _, ⟨rfl, Nat.zero_le _, fun h => absurd h (Nat.lt_irrefl 0)⟩⟩, HB3.out⟩))
end
end Go.Proofs.YtghommaokdhjmaaGreat.Sat
