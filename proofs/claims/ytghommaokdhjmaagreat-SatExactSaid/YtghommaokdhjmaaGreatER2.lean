/- A part of the proof: walks of the code and plain laws, printed and by hand; no condition. -/
import Derived.Test.YtghommaokdhjmaaGreatER1
import Derived.Lib.SlKept
import Derived.Shelf.SlSortCmp.InsertionK
set_option linter.unusedVariables false
set_option linter.unusedSimpArgs false
/- The references' Get and Bind answer what the plain forms say; texts no longer than a million bytes. -/
namespace Go.Proofs.YtghommaokdhjmaaGreat.SpecB
open Go.Shelf Go.RowKit Go.Lib Go.Sort Go.Proofs.SymP Go.Proofs.YtghommaokdhjmaaGreatW.PrintWords P Str PSpec BothB
theorem rget_loop (l : List S66) (n : ByteArray) (hl : l.length ≤ 1000000) : ∀ (m i : Nat), i + m = l.length → Ev (fun k => qf54.l0 k l n i) (getP (l.drop i) n) := by
 intro m
 induction m with
 | zero =>
  intro i h
  refine Ev.step (fun k => by rw [qf54.l0, if_neg (by omega)]) ?_
  rw [List.drop_eq_nil_of_le (by omega)]
  exact Ev.now _
 | succ m ih =>
  intro i h
  have hi : i < l.length := by omega
  refine Ev.step (fun k => by rw [qf54.l0, if_pos (by omega), if_pos (by omega), rd_get hi, w64 hl hi]) ?_
  rw [List.drop_eq_getElem_cons hi, getP]
  by_cases e : l[i].f0 = n
  ·simp only [if_pos ((tl_iff _ _).2 e), if_pos e]; exact Ev.now _
  ·simp only [if_neg (fun h => e ((tl_iff _ _).1 h)), if_neg e]; exact ih (i + 1) (by omega)
theorem ev_rget {l : List S66} (hl : l.length ≤ 1000000) (n : ByteArray) : Ev (fun k => qf54.f k l n) (getP l n) := by
 unfold qf54.f
 exact rget_loop l n hl l.length 0 (by omega)
def insX (x : S66) : List S66 → List S66
 | [] => [x]
 | y :: l => if cfB x y < 0 then x :: y :: l else y :: insX x l
theorem insX_mem (x : S66) : ∀ (l : List S66) (y : S66), y ∈ insX x l ↔ y ∈ l ∨ y = x
 | [], y => by simp [insX]
 | z :: l, y => by
  unfold insX
  split
  ·simp only [List.mem_cons]; rw [or_comm]
  ·simp only [List.mem_cons, insX_mem x l y, or_assoc]
theorem insX_rises (x : S66) : ∀ (l : List S66), Rises l → (∀ y ∈ l, y.f0 ≠ x.f0) → Rises (insX x l)
 | [], _, _ => List.pairwise_singleton _ _
 | z :: l, h, hn => by
  have h2 := List.pairwise_cons.1 h
  unfold insX
  split
  ·rename_i hc
   refine List.pairwise_cons.2 ⟨fun y hy => ?_, h⟩
   rcases List.mem_cons.1 hy with rfl | hy
   ·exact hc
   ·exact cf_lt hc (h2.1 y hy)
  ·rename_i hc
   refine List.pairwise_cons.2 ⟨fun y hy => ?_, insX_rises x l h2.2 fun y hy => hn y (List.mem_cons_of_mem _ hy)⟩
   rcases (insX_mem x l y).1 hy with hy | rfl
   ·exact h2.1 y hy
   ·have h3 := cf_swap z y
    have h4 : cfB z y ≠ 0 := fun e => hn z List.mem_cons_self ((cf_zero _ _).1 e)
    omega
theorem insX_len (x : S66) : ∀ l, (insX x l).length = l.length + 1
 | [] => rfl
 | z :: l => by
  unfold insX
  split
  ·rfl
  ·simp [insX_len x l]
def bindP (l : List S66) (x : S66) : List S66 × Bool :=
 if (getP l x.f0).2.2.2 = true then (l, ((getP l x.f0).1 == x.f1.f0 && ((getP l x.f0).2.1 == x.f1.f1 && ((getP l x.f0).2.2.1.toList == x.f1.f2.toList))))
 else if l.length ≥ 100 then ([], false) else (insX x l, true)
theorem bindP_cases {l : List S66} (hl : chkP l = 0) {x : S66} (hx : rightP x = true) : (∃ m, bindP l x = (m, true) ∧ With l x m) ∨ ((bindP l x).2 = false ∧ ∀ m, ¬ With l x m) := by
 unfold bindP
 have hr := (right_iff l).1 hl
 rcases getP_cases x.f0 l with ⟨y, h1, h2, h3⟩ | ⟨h1, h2⟩
 ·rw [h3]
  simp only [if_true]
  by_cases e : y = x
  ·subst e
   refine .inl ⟨l, by simp, hl, hx, hl, fun z => ⟨.inl, fun h => h.elim id fun h => h ▸ h1⟩⟩
  ·refine .inr ⟨?_, fun m hm => ?_⟩
   ·rw [Bool.eq_false_iff]
    intro h
    simp only [Bool.and_eq_true, beq_iff_eq, tl_iff] at h
    refine e ?_
    obtain ⟨y0, y1, y2, y3⟩ := y
    obtain ⟨x0, x1, x2, x3⟩ := x
    simp only at h h2
    obtain ⟨rfl, rfl, rfl⟩ := h
    subst h2
    rfl
   ·exact e (rises_inj ((right_iff m).1 hm.2.2.1).2.2 ((hm.2.2.2 y).2 (.inl h1)) ((hm.2.2.2 x).2 (.inr rfl)) h2)
 ·rw [h2]
  simp only [ff]
  have hrise := insX_rises x l hr.2.2 h1
  by_cases h4 : l.length ≥ 100
  ·rw [if_pos h4]
   refine .inr ⟨rfl, fun m hm => ?_⟩
   have e : m = insX x l := rises_only ((right_iff m).1 hm.2.2.1).2.2 hrise fun z => by rw [hm.2.2.2, insX_mem]
   have h5 := right_len hm.2.2.1
   rw [e, insX_len] at h5
   omega
  ·rw [if_neg h4]
   refine .inl ⟨insX x l, rfl, hl, hx, (right_iff _).2 ⟨by rw [insX_len]; omega, fun y hy => ?_, hrise⟩, insX_mem x l⟩
   rcases (insX_mem x l y).1 hy with hy | rfl
   ·exact hr.2.1 y hy
   ·exact hx
end Go.Proofs.YtghommaokdhjmaaGreat.SpecB
namespace Go.Proofs.YtghommaokdhjmaaGreat.Sat
open Go.RowKit Go.Lib Go.Sort Go.Proofs.SymP Go.Proofs.YtghommaokdhjmaaGreatW.PrintWords P FactC IRow Frm SpecM SpecB PSat PSpec CmpF BothB SortStr Str
def bX4 (x : S66) (cs : List Value) : Prop := cs = [.string x.f0, .int .i64 x.f1.f0, .int .i64 x.f1.f1, .string x.f1.f2]
def OwnB (W : World) (b : Nat) (v : Value) (xs : List S66) : Prop := ∃ ui, W.ownsRow b 66 4 v xs.length ui ∧ Reps bX4 4 xs ui
theorem OwnB.below {W W' : World} {b : Nat} {v : Value} {xs : List S66} (h : OwnB W b v xs) (hb : Go.RowKit.Below W.heap.size W W') : OwnB W' b v xs := by
 obtain ⟨ui, ho, hr⟩ := h
 exact ⟨ui, own_move ho (fun k hk => hb.block k (own_lt ho k hk)), hr⟩
theorem OwnB.row {W : World} {b : Nat} {A : Option Addr} {n c : Nat} {xs : List S66} (h : OwnB W b (.slice A n c) xs) (hn : xs.length = n) : n ≤ c ∧ Kd.C k66 W A n xs := by
 subst hn
 obtain ⟨ui, ho, hr⟩ := h
 obtain ⟨A', c', e, hR⟩ := own_reads_row (R := fun x cs => k66.K W x cs) ho (hr.imp_ (fun x cs hp => by rw [show cs = [.string x.f0, .int .i64 x.f1.f0, .int .i64 x.f1.f1, .string x.f1.f2] from hp]; exact k66_mk W x)) rfl
 injection e with e1 e2 e3
 subst e1
 exact ⟨own_le ho, hR⟩
theorem infoB : (Tryz.prog.info? 66).map (fun i => (i.zero, i.size, i.bytes)) = some (some (.agg #[.string ⟨#[]⟩, .int .i64 0, .int .i64 0, .string ⟨#[]⟩]), 4, 48) := by kernel_rfl
theorem appendB {W : World} (b : Nat) (O : Option Addr) (m co : Nat) (acc : List S66) (x : S66) (h : OwnB W b (.slice O m co) acc) (hm : acc.length = m) (hb : b ≤ W.heap.size) (hl : m ≤ 1000000) :
  ∃ A' c' w', (∀ ty, (Builtin.append_ #[29, 29] ty #[.slice O m co, .slice (some ⟨W.heap.size, 0, none⟩) 1 1]).run Tryz.prog (W.alloc (.cells #[.string x.f0, .int .i64 x.f1.f0, .int .i64 x.f1.f1, .string x.f1.f2] 66)) = .ok (.slice A' (m + 1) c') w') ∧ OwnB w' b (.slice A' (m + 1) c') (acc ++ [x]) ∧ Go.RowKit.Below b W w' := by
 subst hm
 have hin := infoB
 rcases hinf : Tryz.prog.info? 66 with _ | i
 ·rw [hinf] at hin; cases hin
 rw [hinf] at hin
 simp only [Option.map_some, Option.some.injEq, Prod.mk.injEq] at hin
 obtain ⟨hz, hsz, hby⟩ := hin
 have ht : Tryz.prog.underlying 29 = some (.slice 66) := Tryz.underlying29
 obtain ⟨ui, uo, ur⟩ := h
 have uo' := own_alloc uo (.cells #[.string x.f0, .int .i64 x.f1.f0, .int .i64 x.f1.f1, .string x.f1.f2] 66)
 have hb' : b ≤ (W.alloc (.cells #[.string x.f0, .int .i64 x.f1.f0, .int .i64 x.f1.f1, .string x.f1.f2] 66)).heap.size := by simp; omega
 obtain ⟨u', w', hr, ho, hg, _, hat⟩ := run_append_own_at (P := Tryz.prog) _ b 29 0 66 i _ 4 48 ht hinf hz hsz hby (by rfl) (by decide) (.slice O acc.length co) acc.length ui uo' ⟨W.heap.size, 0, none⟩ 1 1 [.string x.f0, .int .i64 x.f1.f0, .int .i64 x.f1.f1, .string x.f1.f2] rfl (fun j v hv => by
  rcases j with _ | _ | _ | _ | j
  ·obtain rfl : Value.string x.f0 = v := by simpa using hv
   simp [Addr.add]
  ·obtain rfl : Value.int .i64 x.f1.f0 = v := by simpa using hv
   simp [Addr.add]
  ·obtain rfl : Value.int .i64 x.f1.f1 = v := by simpa using hv
   simp [Addr.add]
  ·obtain rfl : Value.string x.f1.f2 = v := by simpa using hv
   simp [Addr.add]
  ·simp at hv) (fun v hv => by
  simp only [List.mem_cons, List.not_mem_nil, or_false] at hv
  rcases hv with rfl | rfl | rfl | rfl <;> rfl) (by unfold maxLen; omega) (by omega) hb'
 have hbw : Go.RowKit.Below b W w' := ((Go.RowKit.Below.refl b W).alloc hb _).grown hg hb' (fun k hk => (uo'.lt k hk).1)
 have hys : Reps bX4 4 [x] [.string x.f0, .int .i64 x.f1.f0, .int .i64 x.f1.f1, .string x.f1.f2] := ⟨rfl, fun j p hj => by
  rcases j with _ | j
  ·obtain rfl : x = p := by simpa using hj
   rfl
  ·simp at hj⟩
 obtain ⟨A', c', rfl⟩ := own_slice ho
 refine ⟨A', c', w', fun ty => hr, ⟨_, ?_, Kd.reps_append ur hys⟩, hbw⟩
 rw [show (acc ++ [x]).length = acc.length + 1 by simp]
 exact ho
theorem eq64 (a0 a1 b0 b1 : Int) (a2 b2 : ByteArray) (W : World) : Sem.run Tryz.prog (binOp .eql 64 (.agg #[.int .i64 a0, .int .i64 a1, .string a2]) (.agg #[.int .i64 b0, .int .i64 b1, .string b2])) W = .ok (.bool (a0 == b0 && (a1 == b1 && (a2.toList == b2.toList)))) W := by
 have h := eqA64 (Op.maxDepth - 2) W a0 b0 a1 b1 a2 b2
 change Sem.run Tryz.prog (Op.equal 64 (.agg #[.int .i64 a0, .int .i64 a1, .string a2]) (.agg #[.int .i64 b0, .int .i64 b1, .string b2])) W = _ at h
 simp [binOp, h]
theorem rget_calls {W : World} {B : Option Addr} {bn bc : Nat} {l : List S66} (hb : BRow W B bn bc l) (hl : bn ≤ 1000000) (n : ByteArray) : Calls Tryz.prog 54 #[.slice B bn bc, .string n] W fun e w' => e = .returned (.tuple #[.agg #[.int .i64 (getP l n).1, .int .i64 (getP l n).2.1, .string (getP l n).2.2.1], .bool (getP l n).2.2.2]) ∧ Go.RowKit.Below W.heap.size W w' := by
 obtain rfl := hb.len
 obtain ⟨k, hk⟩ := (ev_rget hl n).rounds
 exact qf54.calls k B bc l n _ _ _ _ W hb.C hb.cap hk
set_option maxHeartbeats 8000000 in
set_option maxRecDepth 1000000 in
theorem rbind_calls {w : World} {B : Option Addr} {bn bc : Nat} {l : List S66} (x : S66) (hb : BRow w B bn bc l) (hl : bn ≤ 1000000) (hn : x.f0.size ≤ 1000000) : Calls Tryz.prog 78 #[.slice B bn bc, .string x.f0, .agg #[.int .i64 x.f1.f0, .int .i64 x.f1.f1, .string x.f1.f2]] w fun e w' => ∃ V vc, e = .returned (.tuple #[.slice V (bindP l x).1.length vc, .bool (bindP l x).2]) ∧ ((bindP l x).1.length ≤ vc ∧ Kd.C k66 w' V (bindP l x).1.length (bindP l x).1) ∧ Go.RowKit.Below w.heap.size w w' := by
 have hu := Tryz.underlying66
 have hu2 := Tryz.underlying64
 have hlen := hb.len
 have hcap := hb.cap
 have mixed : Tryz.prog.follows .mixedOrders = true := by kernel_rfl
 have HG : Aside0 (∀ W, Go.RowKit.Below w.heap.size w W → Calls Tryz.prog 54 #[.slice B bn bc, .string x.f0] W fun e w' => e = .returned (.tuple #[.agg #[.int .i64 (getP l x.f0).1, .int .i64 (getP l x.f0).2.1, .string (getP l x.f0).2.2.1], .bool (getP l x.f0).2.2.2]) ∧ Go.RowKit.Below W.heap.size W w') := ⟨fun W hW => rget_calls (hb.below hW) hl x.f0⟩
 obtain ⟨r, ok, hr⟩ : ∃ r ok, bindP l x = (r, ok) := ⟨_, _, rfl⟩
 rw [hr]
 unfold bindP at hr
 generalize (getP l x.f0).1 = g0 at *
 generalize (getP l x.f0).2.1 = g1 at *
 generalize (getP l x.f0).2.2.1 = g2 at *
 generalize (getP l x.f0).2.2.2 = g3 at *
 have HR := Aside0.mk hb
 have hq := eq64 g0 g1 x.f1.f0 x.f1.f1 g2 x.f1.f2
 have HRes := Aside0.mk hr
 clear hb hr
 go_enter Tryz.func78, Tryz.ntmps78
 go_upto_region 1 with fail
 refine wp_world (fun V => V.cell? ⟨w.heap.size, 0, none⟩ = some (.int .i64 x.f1.f0) ∧ V.cell? ⟨w.heap.size, 1, none⟩ = some (.int .i64 x.f1.f1) ∧ V.cell? ⟨w.heap.size, 2, none⟩ = some (.string x.f1.f2) ∧ Go.RowKit.Below w.heap.size w V) ⟨by simp, by simp, by simp, (Go.RowKit.Below.refl _ w).alloc (Nat.le_refl _) _⟩ ?_
 generalize hgb : w.heap.size = gb
 rintro w0 ⟨b0, b1, b2, hb0⟩
 rw [← hgb] at hb0
 have HB := Aside0.mk hb0
 clear hb0 hgb
 go_upto_region 2 with (first
  | (go_at_call 54; with_reducible refine (HG.out _ HB.out).mono ?_; rintro e w1 ⟨rfl, hb⟩; replace HB := Aside0.mk (HB.out.trans (hb.mono HB.out.size)); replace b0 := mvc hb b0; replace b1 := mvc hb b1; replace b2 := mvc hb b2; clear hb)
  | fail)
 have hb1 : Go.RowKit.Below w1.heap.size w1 (w1.alloc (.cells #[.int .i64 g0, .int .i64 g1, .string g2] 64)) := (Go.RowKit.Below.refl _ w1).alloc (Nat.le_refl _) _
 refine wp_world (fun V => V.cell? ⟨gb, 0, none⟩ = some (.int .i64 x.f1.f0) ∧ V.cell? ⟨gb, 1, none⟩ = some (.int .i64 x.f1.f1) ∧ V.cell? ⟨gb, 2, none⟩ = some (.string x.f1.f2) ∧ V.cell? ⟨w1.heap.size, 0, none⟩ = some (.int .i64 g0) ∧ V.cell? ⟨w1.heap.size, 1, none⟩ = some (.int .i64 g1) ∧ V.cell? ⟨w1.heap.size, 2, none⟩ = some (.string g2) ∧ Go.RowKit.Below w.heap.size w V) ⟨mvc hb1 b0, mvc hb1 b1, mvc hb1 b2, by simp, by simp, by simp, HB.out.trans (hb1.mono HB.out.size)⟩ ?_
 clear hb1 b0 b1 b2 HB HG
 generalize w1.heap.size = gc
 rintro w2 ⟨b0, b1, b2, c0, c1, c2, hb2⟩
 have HB := Aside0.mk hb2
 clear hb2
 cases g3 with
 | true =>
  have hres : r = l ∧ ok = (g0 == x.f1.f0 && (g1 == x.f1.f1 && (g2.toList == x.f1.f2.toList))) := by
   have := HRes.out
   simp at this
   exact ⟨this.1.symm, by rw [← this.2]⟩
  have HE := Aside0.mk hres
  have r0 := cell_regrown b0
  have r1 := cell_regrown b1
  have r2 := cell_regrown b2
  have s0 := cell_regrown c0
  have s1 := cell_regrown c1
  have s2 := cell_regrown c2
  generalize (g0 == x.f1.f0 && (g1 == x.f1.f1 && (g2.toList == x.f1.f2.toList))) = q at *
  clear hres HRes
  go_upto_region 3 with fail
  refine wp_region_quiet_below mixed (by kernel_rfl) ?_
  repeat (first | go_big_quiet_step (fail) | quiet_step (fail))
  refine wpQuiet_nil ?_
  intro _ hw'
  obtain ⟨⟨dq, osq⟩, hw''⟩ := hw'
  subst hw''
  have HB2 := Aside0.mk (HB.out.trans ((below_regrown w2 dq osq).mono HB.out.size))
  go_wp2
  go_ret2
  have h := HR.out.below HB2.out
  rw [HE.out.1, HE.out.2, hlen]
  exact ⟨_, _, rfl, ⟨h.cap, h.C⟩, HB2.out⟩
 | false =>
  by_cases h100 : 100 ≤ bn
  ·have d : decide (100 ≤ (bn : Int)) = true := decide_eq_true (by omega)
   have d' : decide (100 ≤ bn) = true := decide_eq_true h100
   have hres : r = [] ∧ ok = false := by
    have := HRes.out
    simp [hlen, h100] at this
    exact ⟨by first | exact this.1 | exact this.1.symm, by first | exact this.2 | exact this.2.symm⟩
   have HE := Aside0.mk hres
   clear hres HRes
   go_wp2
   go_ret2
   rw [HE.out.1, HE.out.2]
   exact ⟨none, 0, rfl, ⟨Nat.le_refl _, ⟨rfl, Nat.zero_le _, fun h => absurd h (Nat.lt_irrefl 0)⟩⟩, HB.out⟩
  have d : decide (100 ≤ (bn : Int)) = false := decide_eq_false (by omega)
  have d' : decide (100 ≤ bn) = false := decide_eq_false h100
  have hres : r = insX x l ∧ ok = true := by
   have := HRes.out
   simp [hlen, h100] at this
   exact ⟨by first | exact this.1 | exact this.1.symm, by first | exact this.2 | exact this.2.symm⟩
  have HE := Aside0.mk hres
  have HX := Aside0.mk (And.intro (World.block_lt_of_cell? w2 _ b0) (And.intro b0 (And.intro b1 b2)))
  clear hres HRes hq c0 c1 c2 b0 b1 b2
  go_wp2
  go_loopg [10, 11, 12] bn (fun gg s10 s11 s12 wr => ∃ (O : Option Addr) (co m j : Nat) (f : Bool), s10 = .slice O m co ∧ s11 = .bool f ∧ s12 = .int .i64 j ∧ j ≤ bn ∧ bn - j ≤ gg ∧ Aside0 (∃ acc : List S66, acc.length = m ∧ m = j + (if f = true then 1 else 0) ∧ OwnB wr w2.heap.size (.slice O m co) acc ∧ Go.RowKit.Below w2.heap.size w2 wr ∧ acc ++ (if f = true then l.drop j else insX x (l.drop j)) = insX x l))
  case atStart => exact ⟨none, 0, 0, 0, false, rfl, rfl, rfl, Nat.zero_le _, Nat.le_refl _, ⟨[], rfl, rfl, ⟨[], own_nil _ _ _ _, rfl, fun j p h => by simp at h⟩, Go.RowKit.Below.refl _ _, by simp⟩⟩
  case round =>
   obtain ⟨O, co, m, j, f, rfl, rfl, rfl, hj, hg, HI⟩ := hrel
   obtain ⟨acc, hI⟩ := HI.out
   have HI := Aside0.mk hI
   clear hI
   have b0 := (HI.out.2.2.2.1.cell HX.out.1).trans HX.out.2.1
   have b1 := (HI.out.2.2.2.1.cell HX.out.1).trans HX.out.2.2.1
   have b2 := (HI.out.2.2.2.1.cell HX.out.1).trans HX.out.2.2.2
   by_cases hlt : j < bn
   ·have hltz : (j : Int) < (bn : Int) := by omega
    have hjz : (0 : Int) ≤ (j : Int) := by omega
    have hjl : j < l.length := by omega
    obtain ⟨ad, eB, y0, y1, y2, y3⟩ := at_T66 (HR.out.below HB.out).C (j : Int) hjz hltz
    rw [show ((j : Int)).toNat * 4 = j * 4 by omega] at y0 y1 y2 y3
    have HY0 := Aside0.mk (World.block_lt_of_cell? w2 _ y0)
    have HY1 := Aside0.mk (World.block_lt_of_cell? w2 _ y1)
    have HY2 := Aside0.mk (World.block_lt_of_cell? w2 _ y2)
    have HY3 := Aside0.mk (World.block_lt_of_cell? w2 _ y3)
    have HD : Aside0 (l.drop j = rd_T66 l (j : Int) :: l.drop (j + 1)) := ⟨by rw [List.drop_eq_getElem_cons hjl, rd_get hjl]⟩
    obtain ⟨y, hy⟩ : ∃ y, rd_T66 l (j : Int) = y := ⟨_, rfl⟩
    rw [hy] at y0 y1 y2 y3 HD
    clear hy
    replace y0 := (HI.out.2.2.2.1.cell HY0.out).trans y0
    replace y1 := (HI.out.2.2.2.1.cell HY1.out).trans y1
    replace y2 := (HI.out.2.2.2.1.cell HY2.out).trans y2
    replace y3 := (HI.out.2.2.2.1.cell HY3.out).trans y3
    subst eB
    have HC : Aside0 (∀ W, Calls Tryz.prog 53 #[.string x.f0, .string y.f0] W fun e w' => e = .returned (.int .i64 (cmpS x.f0 y.f0)) ∧ Go.RowKit.Below W.heap.size W w') := ⟨fun W => cStrings hn⟩
    have hJ := Aside0.mk hlt
    have kw : IntKind.i64.wrap ((j : Int) + 1) = ((j + 1 : Nat) : Int) := by rw [show (j : Int) + 1 = ((j + 1 : Nat) : Int) by omega]; exact kwrap (by omega) (by omega)
    have HS : Aside0 (cfB x y = cmpS x.f0 y.f0) := ⟨rfl⟩
    generalize cmpS x.f0 y.f0 = s at *
    have hc : f = true ∨ (f = false ∧ decide (s < 0) = true) ∨ (f = false ∧ decide (s < 0) = false) := by
     cases f
     ·cases hs : decide (s < 0)
      ·exact .inr (.inr ⟨rfl, rfl⟩)
      ·exact .inr (.inl ⟨rfl, rfl⟩)
     ·exact .inl rfl
    have HO := Aside0.mk (And.intro HI.out.1 (And.intro HI.out.2.1 HI.out.2.2.1))
    have hmb : m ≤ 1000 := by have := HI.out.2.1; cases f <;> simp at this <;> omega
    have HL := Aside0.mk HI.out.2.2.2.1
    have HV := Aside0.mk HI.out.2.2.2.2
    clear HI hlt hjl
    rcases hc with rfl | ⟨rfl, ds⟩ | ⟨rfl, ds⟩
    ·go_wp2_with (first
      | (at_builtin; obtain ⟨A', c', w7, happ, hO, hb⟩ := appendB (W := wr) w2.heap.size O m co acc y (HO.out.2.2) (HO.out.1) (HL.out.size) (by omega); refine Lib.wpList_append_run _ (by rfl) (.tmp 51) (.tmp 56) 29 29 (by rfl) (.slice O m co) (.slice (some ⟨wr.heap.size, 0, none⟩) 1 1) (by rfl) (by rfl) (.slice A' (m + 1) c') w7 (happ 29) ?_; have HO2 := Aside0.mk hO; have HL2 := Aside0.mk (HL.out.trans hb); clear hO hb happ)
      | fail)
     go_roundg (bn - (j + 1))
     case measure => have := hJ.out; omega
     case rel => exact ⟨A', c', m + 1, j + 1, true, rfl, rfl, by go_num, by have := hJ.out; omega, Nat.le_refl _, ⟨acc ++ [y], by simp [HO.out.1], by have := HO.out.2.1; simp at this ⊢; omega, HO2.out, HL2.out, by have h := HV.out; rw [HD.out] at h; simpa using h⟩⟩
    ·have DS := Aside0.mk ds
     go_wp2_with (first
      | (go_at_call 53; with_reducible refine (HC.out _).mono ?_; rintro e w5 ⟨rfl, hb⟩; have HL5 := Aside0.mk (HL.out.trans (hb.mono HL.out.size)); have HO5 := Aside0.mk (HO.out.2.2.below hb); replace y0 := mvc hb y0; replace y1 := mvc hb y1; replace y2 := mvc hb y2; replace y3 := mvc hb y3; replace b0 := mvc hb b0; replace b1 := mvc hb b1; replace b2 := mvc hb b2; clear hb)
      | (at_builtin; obtain ⟨A', c', w6, happ, hO, hb⟩ := appendB (W := w5) w2.heap.size O m co acc x (HO5.out) (HO.out.1) (HL5.out.size) (by omega); refine Lib.wpList_append_run _ (by rfl) (.tmp 45) (.tmp 49) 29 29 (by rfl) (.slice O m co) (.slice (some ⟨w5.heap.size, 0, none⟩) 1 1) (by rfl) (by rfl) (.slice A' (m + 1) c') w6 (happ 29) ?_; have HO6 := Aside0.mk hO; have HL6 := Aside0.mk (HL5.out.trans hb); replace y0 := (hb.cell HY0.out).trans y0; replace y1 := (hb.cell (show Addr.block ⟨(ad.add (j * 4)).block, (ad.add (j * 4)).off + 1, none⟩ < _ from HY0.out)).trans y1; replace y2 := (hb.cell (show Addr.block ⟨(ad.add (j * 4)).block, (ad.add (j * 4)).off + 2, none⟩ < _ from HY0.out)).trans y2; replace y3 := (hb.cell (show Addr.block ⟨(ad.add (j * 4)).block, (ad.add (j * 4)).off + 3, none⟩ < _ from HY0.out)).trans y3; clear hO hb happ)
      | (at_builtin; obtain ⟨A2, c2, w7, happ, hO, hb⟩ := appendB (W := w6) w2.heap.size A' (m + 1) c' (acc ++ [x]) y (HO6.out) (by simp [HO.out.1]) (HL6.out.size) (by omega); refine Lib.wpList_append_run _ (by rfl) (.tmp 51) (.tmp 56) 29 29 (by rfl) (.slice A' (m + 1) c') (.slice (some ⟨w6.heap.size, 0, none⟩) 1 1) (by rfl) (by rfl) (.slice A2 ((m + 1) + 1) c2) w7 (happ 29) ?_; have HO2 := Aside0.mk hO; have HL2 := Aside0.mk (HL6.out.trans hb); clear hO hb happ)
      | fail)
     go_roundg (bn - (j + 1))
     case measure => have := hJ.out; omega
     case rel => exact ⟨A2, c2, m + 1 + 1, j + 1, true, rfl, rfl, by go_num, by have := hJ.out; omega, Nat.le_refl _, ⟨acc ++ [x] ++ [y], by simp [HO.out.1], by have := HO.out.2.1; simp at this ⊢; omega, HO2.out, HL2.out, by have h := HV.out; rw [HD.out, insX, HS.out, if_pos (of_decide_eq_true DS.out)] at h; simpa using h⟩⟩
    ·have DS := Aside0.mk ds
     go_wp2_with (first
      | (go_at_call 53; with_reducible refine (HC.out _).mono ?_; rintro e w5 ⟨rfl, hb⟩; have HL5 := Aside0.mk (HL.out.trans (hb.mono HL.out.size)); have HO5 := Aside0.mk (HO.out.2.2.below hb); replace y0 := mvc hb y0; replace y1 := mvc hb y1; replace y2 := mvc hb y2; replace y3 := mvc hb y3; replace b0 := mvc hb b0; replace b1 := mvc hb b1; replace b2 := mvc hb b2; clear hb)
      | (at_builtin; obtain ⟨A', c', w7, happ, hO, hb⟩ := appendB (W := w5) w2.heap.size O m co acc y (HO5.out) (HO.out.1) (HL5.out.size) (by omega); refine Lib.wpList_append_run _ (by rfl) (.tmp 51) (.tmp 56) 29 29 (by rfl) (.slice O m co) (.slice (some ⟨w5.heap.size, 0, none⟩) 1 1) (by rfl) (by rfl) (.slice A' (m + 1) c') w7 (happ 29) ?_; have HO2 := Aside0.mk hO; have HL2 := Aside0.mk (HL5.out.trans hb); clear hO hb happ)
      | fail)
     go_roundg (bn - (j + 1))
     case measure => have := hJ.out; omega
     case rel => exact ⟨A', c', m + 1, j + 1, false, rfl, rfl, by go_num, by have := hJ.out; omega, Nat.le_refl _, ⟨acc ++ [y], by simp [HO.out.1], by have := HO.out.2.1; simp at this ⊢; omega, HO2.out, HL2.out, by have h := HV.out; rw [HD.out, insX, HS.out, if_neg (of_decide_eq_false DS.out)] at h; simpa using h⟩⟩
   ·have hltz : ¬ (j : Int) < (bn : Int) := by omega
    have hD : l.drop j = [] := List.drop_eq_nil_of_le (by omega)
    have HO := Aside0.mk (And.intro HI.out.1 (And.intro HI.out.2.1 HI.out.2.2.1))
    have hmb : m ≤ 1000 := by have := HI.out.2.1; cases f <;> simp at this <;> omega
    have HL := Aside0.mk HI.out.2.2.2.1
    have HV := Aside0.mk HI.out.2.2.2.2
    have HD := Aside0.mk hD
    clear HI hD
    cases f with
    | true =>
     go_wp2
     go_ret2
     have hv := HV.out
     rw [HD.out] at hv
     simp at hv
     rw [HE.out.1, HE.out.2, ← hv, HO.out.1]
     exact ⟨_, _, rfl, HO.out.2.2.row HO.out.1, HB.out.trans (HL.out.mono HB.out.size)⟩
    | false =>
     go_wp2_with (first
      | (at_builtin; obtain ⟨A', c', w7, happ, hO, hb⟩ := appendB (W := wr) w2.heap.size O m co acc x (HO.out.2.2) (HO.out.1) (HL.out.size) (by omega); refine Lib.wpList_append_run _ (by rfl) (.tmp 60) (.tmp 64) 29 29 (by rfl) (.slice O m co) (.slice (some ⟨wr.heap.size, 0, none⟩) 1 1) (by rfl) (by rfl) (.slice A' (m + 1) c') w7 (happ 29) ?_; have HO2 := Aside0.mk hO; have HL2 := Aside0.mk (HL.out.trans hb); clear hO hb happ)
      | fail)
     go_ret2
     have hv := HV.out
     rw [HD.out] at hv
     simp [insX] at hv
     rw [HE.out.1, HE.out.2, ← hv, show (acc ++ [x]).length = m + 1 by simp [HO.out.1]]
     exact ⟨_, _, rfl, HO2.out.row (by simp [HO.out.1]), HB.out.trans (HL2.out.mono HB.out.size)⟩
end Go.Proofs.YtghommaokdhjmaaGreat.Sat
/- What the statements' witness is, plainly. -/
namespace Go.Proofs.YtghommaokdhjmaaGreat.Sat
open Go.RowKit Go.Lib Go.Sort Go.Proofs.SymP Go.Proofs.YtghommaokdhjmaaGreatW.PrintWords P FactC IRow Frm SpecM SpecB PSat PSpec CmpF BothB SortStr Str
theorem con_size (t : S92) : con t ↔ t.f0.size = 0 := by
 unfold con
 rw [ByteArray.toList_eq]
 constructor
 ·intro h; have := congrArg List.length h; simpa using this
 ·intro h; exact List.length_eq_zero_iff.1 (by simpa using h)
theorem varP_size {s : ByteArray} (h : varP s = true) : 1 ≤ s.size := by
 unfold varP at h
 simp only [Bool.and_eq_true, decide_eq_true_eq] at h
 exact h.1.1.1.1
theorem term_var {s : ByteArray} (h : varP s = true) : termP ⟨s, ⟨0, 0, ⟨#[]⟩⟩⟩ = true := by
 have hc : ¬ con ⟨s, ⟨0, 0, ⟨#[]⟩⟩⟩ := fun hc => by
  have h3 : s.size = 0 := (con_size _).1 hc
  have h2 := varP_size h
  omega
 unfold termP
 rw [if_neg (show ¬ s.toList = [] from hc)]
 show (varP s && _) = true
 rw [h, ne_toList]; rfl
def tX : S92 := ⟨⟨#[88]⟩, ⟨0, 0, ⟨#[]⟩⟩⟩
def v1 : S64 := ⟨1, 1, ⟨#[]⟩⟩
def nQ : ByteArray := ⟨#[113]⟩
def nR : ByteArray := ⟨#[114]⟩
def nA : ByteArray := ⟨#[97]⟩
def xQ : S62 := ⟨1, ⟨nQ, [tX]⟩, 0, 0⟩
def xO : S62 := ⟨6, ⟨⟨#[]⟩, []⟩, 0, 0⟩
def fQ : S58 := ⟨nQ, [v1]⟩
def fR : S58 := ⟨nR, [v1]⟩
def bX : S66 := ⟨⟨#[88]⟩, v1⟩
theorem name_q : nameP nQ = true := by decide +kernel
theorem name_r : nameP nR = true := by decide +kernel
theorem name_a : nameP nA = true := by decide +kernel
theorem term_X : termP tX = true := term_var (by decide +kernel)
theorem mat_q : matP nQ [tX] = 0 := mat_zero.2 ⟨name_q, by simp, fun t ht => by rw [List.mem_singleton.1 ht]; exact term_X⟩
theorem mat_r : matP nR [tX] = 0 := mat_zero.2 ⟨name_r, by simp, fun t ht => by rw [List.mem_singleton.1 ht]; exact term_X⟩
theorem val_v1 : valP v1.f0 v1.f1 v1.f2 = 0 := valP_int (by decide) (by decide)
theorem fact_q : factP nQ [v1] = 0 := fact_zero.2 ⟨name_q, by simp, fun t ht => by rw [List.mem_singleton.1 ht]; exact val_v1⟩
theorem fact_r : factP nR [v1] = 0 := fact_zero.2 ⟨name_r, by simp, fun t ht => by rw [List.mem_singleton.1 ht]; exact val_v1⟩
theorem con_X : ¬ con tX := fun h => by have := (con_size _).1 h; exact absurd this (by decide)
theorem right_bX : rightP bX = true := by unfold rightP; rw [show varP bX.f0 = true by decide +kernel, show valP bX.f1.f0 bX.f1.f1 bX.f1.f2 = 0 from valP_int (by decide) (by decide)]; rfl
theorem step_q (fr dp : List Int) : stepN xQ 0 fr dp = some (0, 1) := by
 unfold stepN
 rw [if_pos (show arms xQ.f0 = 0 by decide), if_neg]
 ·rfl
 ·rintro (h | h | h)
  ·exact h rfl
  ·exact h rfl
  ·exact h mat_q
theorem step_o : stepN xO 1 [0] [1] = some (0, 2) := by
 unfold stepN
 rw [if_neg (show ¬ arms xO.f0 = 0 by decide), if_pos (show arms xO.f0 = 1 by decide), if_neg]
 ·rfl
 ·rintro (h | h | h | h)
  ·exact absurd h (by decide)
  ·exact h rfl
  ·exact h rfl
  ·exact absurd h (by decide +kernel)
theorem chk_q : chkN [xQ] = 0 := by
 unfold chkN
 rw [if_neg (by simp)]
 simp [fromsP, step_q]
theorem chk_qo : chkN [xQ, xO] = 0 := by
 unfold chkN
 rw [if_neg (by simp)]
 simp [fromsP, step_q, step_o]
theorem tr_w : trP [fQ, fR] = 0 := by
 unfold trP
 rw [if_neg (by simp)]
 simp only [trL]
 rw [if_pos (show factP fQ.f0 fQ.f1 = 0 from fact_q), if_pos (show factP fR.f0 fR.f1 = 0 from fact_r)]
theorem chk_b : chkP [bX] = 0 := right_one right_bX
theorem vars_X : SpecM.varsL [] [tX] = [tX.f0] := by
 rw [SpecM.varsL, if_neg con_X, if_neg (by simp), List.nil_append, SpecM.varsL]
theorem varsN_q : varsN [xQ] = [tX.f0] := by unfold varsN; simp only [List.flatMap_cons, List.flatMap_nil, List.append_nil]; exact vars_X
theorem varsN_qo : varsN [xQ, xO] = [tX.f0] := by
 unfold varsN
 simp only [List.flatMap_cons, List.flatMap_nil, List.append_nil]
 rw [show SpecM.varsL [] xO.f1.f1 = [] from rfl, show SpecM.varsL [] xQ.f1.f1 = [tX.f0] from vars_X]; rfl
theorem get_X : getP [bX] tX.f0 = (1, 1, ⟨#[]⟩, true) := by rw [getP, if_pos (show bX.f0 = tX.f0 from rfl)]; rfl
theorem gr_X (a : ByteArray) (h : matP a [tX] = 0) : groundP a [tX] [bX] = (a, [v1], 0) := by
 unfold groundP
 have hg : grL [bX] [tX] = some [v1] := by
  rw [grL, if_neg con_X, get_X, if_pos rfl]; rfl
 rw [if_pos h, if_pos chk_b, hg]
theorem ev_0 : evP [fQ, fR] [bX] xQ.f1 0 = true := by
 unfold evP
 rw [show groundP xQ.f1.f0 xQ.f1.f1 [bX] = (nQ, [v1], 0) from gr_X nQ mat_q]
 decide +kernel
theorem ev_1 : evP [fQ, fR] [bX] xQ.f1 1 = false := by
 unfold evP
 rw [show groundP xQ.f1.f0 xQ.f1.f1 [bX] = (nQ, [v1], 0) from gr_X nQ mat_q]
 decide +kernel
theorem sem_q : semP (evP [fQ, fR] [bX]) [xQ] 1 = false := ev_1
theorem sem_qo : semP (evP [fQ, fR] [bX]) [xQ, xO] 1 = true := by
 have h : semP (evP [fQ, fR] [bX]) [xQ, xO] 1 = onceR (evP [fQ, fR] [bX] xQ.f1) 1 := rfl
 rw [h]
 simp [onceR, ev_0]
theorem unb_q : unbP [xQ] [bX] = false := by unfold unbP; rw [varsN_q]; simp [get_X]
theorem unb_qo : unbP [xQ, xO] [bX] = false := by unfold unbP; rw [varsN_qo]; simp [get_X]
theorem unb_no : unbP [xQ, xO] [] = true := by unfold unbP; rw [varsN_qo]; simp [getP]
theorem hE_qo : holdsE [xQ, xO] [fQ, fR] 1 [bX] = 0 := by
 unfold holdsE; rw [if_neg (by simp [chk_qo]), if_neg (by simp [tr_w]), if_neg (by simp [chk_b]), if_neg (by simp), if_neg (by simp [unb_qo])]
theorem hV_qo : holdsV [xQ, xO] [fQ, fR] 1 [bX] = true := by unfold holdsV; rw [if_pos hE_qo]; exact sem_qo
theorem hE_q : holdsE [xQ] [fQ, fR] 1 [bX] = 0 := by
 unfold holdsE; rw [if_neg (by simp [chk_q]), if_neg (by simp [tr_w]), if_neg (by simp [chk_b]), if_neg (by simp), if_neg (by simp [unb_q])]
theorem hV_q : holdsV [xQ] [fQ, fR] 1 [bX] = false := by unfold holdsV; rw [if_pos hE_q]; exact sem_q
theorem hE_no : holdsE [xQ, xO] [fQ, fR] 1 [] = 5 := by
 unfold holdsE; rw [if_neg (by simp [chk_qo]), if_neg (by simp [tr_w]), if_neg (by simp [right_nil]), if_neg (by simp), if_pos unb_no]
theorem one_r : oneP nR [tX] nR [v1] [] = ([bX], true) :=
 oneP_fit mat_r fact_r rfl rfl ⟨right_nil, right_one right_bX, fun p hp hc => by
  have : p = (tX, v1) := by simpa using hp
  subst this
  exact absurd hc con_X, fun x => by
  constructor
  ·intro h
   exact .inr ⟨(tX, v1), by simp, con_X, by rw [List.mem_singleton.1 h]; rfl⟩
  ·rintro (h | ⟨p, hp, _, rfl⟩)
   ·simp at h
   ·have : p = (tX, v1) := by simpa using hp
    subst this
    exact List.mem_singleton.2 rfl⟩
theorem fit_q : fitNs [xQ] := ⟨fun x hx => by rw [List.mem_singleton.1 hx]; exact ⟨⟨by decide, by decide⟩, by decide⟩, by decide⟩
theorem fit_qo : fitNs [xQ, xO] := ⟨fun x hx => by
 rcases List.mem_cons.1 hx with rfl | hx
 ·exact ⟨⟨by decide, by decide⟩, by decide⟩
 ·rw [List.mem_singleton.1 hx]; exact ⟨⟨by decide, by decide⟩, by decide⟩, by decide⟩
theorem fit_t : ∀ y ∈ [fQ, fR], fitF y := fun y hy => by
 rcases List.mem_cons.1 hy with rfl | hy
 ·exact ⟨by decide, by decide, by decide⟩
 ·rw [List.mem_singleton.1 hy]; exact ⟨by decide, by decide, by decide⟩
end Go.Proofs.YtghommaokdhjmaaGreat.Sat
/- The reference's Match answers what the plain match says; texts no longer than a million bytes. -/
namespace Go.Proofs.YtghommaokdhjmaaGreat.Sat
open Go.RowKit Go.Lib Go.Sort Go.Proofs.SymP Go.Proofs.YtghommaokdhjmaaGreatW.PrintWords P FactC IRow Frm SpecM SpecB PSat PSpec CmpF BothB SortStr Str
def matchR : List S92 → List S64 → List S66 → List S66 × Bool
 | [], _, l => (l, true)
 | _ :: _, [], l => (l, true)
 | t :: ts, v :: vs, l => if con t then (if neV t.f1 v = true then ([], false) else matchR ts vs l) else (if (bindP l (bnd t v)).2 = true then matchR ts vs (bindP l (bnd t v)).1 else ([], false))
theorem bindP_len {l : List S66} (h : l.length ≤ 100) (x : S66) : (bindP l x).1.length ≤ 100 := by
 unfold bindP
 split
 ·exact h
 ·split
  ·simp
  ·rw [insX_len]; omega
set_option maxHeartbeats 8000000 in
set_option maxRecDepth 1000000 in
theorem rmatch_calls {w : World} {A Y B : Option Addr} {c yc bc : Nat} {ts : List S92} {vs : List S64} {l : List S66} (an fn : ByteArray) (hA : Kd.C k92 w A ts.length ts) (hcA : ts.length ≤ c) (hY : Kd.C k64 w Y vs.length vs) (hcY : vs.length ≤ yc) (hb : BRow w B l.length bc l) (hl : l.length ≤ 100) (ft : fitT ts = true) (htl : ts.length ≤ 1000000) {r : List S66} {ok : Bool} (hr : (if an = fn ∧ ts.length = vs.length then matchR ts vs l else ([], false)) = (r, ok)) : Calls Tryz.prog 46 #[.agg #[.string an, .slice A ts.length c], .agg #[.string fn, .slice Y vs.length yc], .slice B l.length bc] w fun e w' => ∃ V vc, e = .returned (.tuple #[.slice V r.length vc, .bool ok]) ∧ (r.length ≤ vc ∧ Kd.C k66 w' V r.length r) ∧ Go.RowKit.Below w.heap.size w w' := by
 have hu := Tryz.underlying25
 have hu2 := Tryz.underlying58
 have hu3 := Tryz.underlying92
 have hu4 := Tryz.underlying64
 have mixed : Tryz.prog.follows .mixedOrders = true := by kernel_rfl
 have HN : ∀ V, Kd.C k66 V none 0 ([] : List S66) := fun V => ⟨rfl, Nat.zero_le _, fun h => absurd h (Nat.lt_irrefl 0)⟩
 have HN := Aside0.mk HN
 have hb0 : Go.RowKit.Below w.heap.size w ((w.alloc (.cells #[.string an, .slice A ts.length c] 25)).alloc (.cells #[.string fn, .slice Y vs.length yc] 58)) := ((Go.RowKit.Below.refl _ w).alloc (Nat.le_refl _) _).alloc (by simp) _
 have HR := Aside0.mk (And.intro hA (And.intro hY hb))
 have HF := Aside0.mk ft
 have HRes := Aside0.mk hr
 clear hA hY hb ft hr
 go_enter Tryz.func46, Tryz.ntmps46
 go_upto_region 1 with fail
 refine wp_world (fun V => V.cell? ⟨w.heap.size, 0, none⟩ = some (.string an) ∧ V.cell? ⟨w.heap.size, 1, none⟩ = some (.slice A ts.length c) ∧ V.cell? ⟨w.heap.size + 1, 0, none⟩ = some (.string fn) ∧ V.cell? ⟨w.heap.size + 1, 1, none⟩ = some (.slice Y vs.length yc) ∧ Go.RowKit.Below w.heap.size w V) ⟨by simp, by simp, by simp, by simp, hb0⟩ ?_
 clear hb0
 generalize hga : w.heap.size = ga
 rintro w0 ⟨a0, a1, f0, f1, hb0⟩
 rw [← hga] at hb0
 have HB := Aside0.mk hb0
 clear hb0 hga
 generalize ga + 1 = gf at *
 by_cases hg : an = fn ∧ ts.length = vs.length
 ·have hres : matchR ts vs l = (r, ok) := by have := HRes.out; rwa [if_pos hg] at this
  have d1 : (an.toList != fn.toList) = false := by rw [hg.1]; simp
  have d1' : (an.toList == fn.toList) = true := by rw [hg.1]; simp
  have d2 : ((ts.length : Int) != (vs.length : Int)) = false := by rw [hg.2]; simp
  have d2' : (ts.length != vs.length) = false := by rw [hg.2]; simp
  have HE := Aside0.mk hg.2
  have HM := Aside0.mk hres
  have HA1 := Aside0.mk (And.intro (World.block_lt_of_cell? w0 _ a1) a1)
  have HF1 := Aside0.mk (And.intro (World.block_lt_of_cell? w0 _ f1) f1)
  clear hres HRes
  obtain ⟨fn2, rfl⟩ : ∃ z, z = fn := ⟨_, rfl⟩
  obtain ⟨rfl, _⟩ := hg
  go_wp2
  clear a0 a1 f0 f1 d1 d1' d2 d2'
  go_loopg [2, 8] ts.length (fun gg s2 s8 wr => ∃ (V : Option Addr) (vc m j : Nat), s2 = .slice V m vc ∧ s8 = .int .i64 j ∧ j ≤ ts.length ∧ ts.length - j ≤ gg ∧ Aside0 (∃ acc : List S66, BRow wr V m vc acc ∧ m ≤ 100 ∧ Go.RowKit.Below w0.heap.size w0 wr ∧ matchR (ts.drop j) (vs.drop j) acc = (r, ok)))
  case atStart => exact ⟨B, bc, l.length, 0, rfl, rfl, Nat.zero_le _, Nat.le_refl _, ⟨l, HR.out.2.2.below HB.out, hl, Go.RowKit.Below.refl _ _, HM.out⟩⟩
  case round =>
   clear HM
   obtain ⟨V, vc, m, j, rfl, rfl, hj, hg, HI⟩ := hrel
   obtain ⟨acc, hI⟩ := HI.out
   have HI := Aside0.mk hI
   clear hI
   have a1 := (HI.out.2.2.1.cell HA1.out.1).trans HA1.out.2
   have f1 := (HI.out.2.2.1.cell HF1.out.1).trans HF1.out.2
   by_cases hlt : j < ts.length
   ·have hltz : (j : Int) < (ts.length : Int) := by omega
    have hjz : (0 : Int) ≤ (j : Int) := by omega
    have hvz : (j : Int) < (vs.length : Int) := by have := HE.out; omega
    have hvl : j < vs.length := by have := HE.out; omega
    obtain ⟨ad, eA, t0, t1, t2, t3⟩ := at_T92 (Kd.C_below HR.out.1 (HB.out.trans (HI.out.2.2.1.mono HB.out.size))) (j : Int) hjz hltz
    obtain ⟨ay, eY, v0, v1, v2⟩ := at_T64 (Kd.C_below HR.out.2.1 (HB.out.trans (HI.out.2.2.1.mono HB.out.size))) (j : Int) hjz hvz
    rw [show ((j : Int)).toNat * 4 = j * 4 by omega] at t0 t1 t2 t3
    rw [show ((j : Int)).toNat * 3 = j * 3 by omega] at v0 v1 v2
    have HD : Aside0 (ts.drop j = rd_T92 ts (j : Int) :: ts.drop (j + 1) ∧ vs.drop j = rd_T64 vs (j : Int) :: vs.drop (j + 1)) := ⟨by rw [List.drop_eq_getElem_cons hlt, rdT_get hlt], by rw [List.drop_eq_getElem_cons hvl, rdV_get hvl]⟩
    have HT := Aside0.mk (show (rd_T92 ts (j : Int)).f0.size ≤ 1000000 by rw [rdT_get hlt]; exact (fitT_mem.1 HF.out _ (List.getElem_mem hlt)).1)
    generalize rd_T92 ts (j : Int) = t at *
    generalize rd_T64 vs (j : Int) = v at *
    have kw : IntKind.i64.wrap ((j : Int) + 1) = ((j + 1 : Nat) : Int) := by rw [show (j : Int) + 1 = ((j + 1 : Nat) : Int) by omega]; exact kwrap (by omega) (by omega)
    have HRow := Aside0.mk (And.intro HI.out.1 HI.out.2.1)
    have HL := Aside0.mk HI.out.2.2.1
    have hM := HI.out.2.2.2
    rw [HD.out.1, HD.out.2, matchR] at hM
    have HM := Aside0.mk hM
    have HJ := Aside0.mk hlt
    clear HI hM hlt hvl HD
    -- the term's own box
    have hbt : Go.RowKit.Below wr.heap.size wr (wr.alloc (.cells #[.string t.f0, .int .i64 t.f1.f0, .int .i64 t.f1.f1, .string t.f1.f2] 92)) := (Go.RowKit.Below.refl _ wr).alloc (Nat.le_refl _) _
    subst eA eY
    go_upto_region 7 with fail
    refine wp_world (fun V => V.cell? ⟨wr.heap.size, 0, none⟩ = some (.string t.f0) ∧ V.cell? ⟨wr.heap.size, 1, none⟩ = some (.int .i64 t.f1.f0) ∧ V.cell? ⟨wr.heap.size, 2, none⟩ = some (.int .i64 t.f1.f1) ∧ V.cell? ⟨wr.heap.size, 3, none⟩ = some (.string t.f1.f2) ∧ V.cell? ⟨ga, 1, none⟩ = some (.slice (some ad) ts.length c) ∧ V.cell? ⟨gf, 1, none⟩ = some (.slice (some ay) vs.length yc) ∧ V.cell? (ay.add (j * 3)) = some (.int .i64 v.f0) ∧ V.cell? ⟨(ay.add (j * 3)).block, (ay.add (j * 3)).off + 1, none⟩ = some (.int .i64 v.f1) ∧ V.cell? ⟨(ay.add (j * 3)).block, (ay.add (j * 3)).off + 2, none⟩ = some (.string v.f2) ∧ Go.RowKit.Below wr.heap.size wr V) ⟨by simp, by simp, by simp, by simp, mvc hbt a1, mvc hbt f1, mvc hbt v0, mvc hbt v1, mvc hbt v2, hbt⟩ ?_
    clear hbt a1 f1 t0 t1 t2 t3 v0 v1 v2
    generalize hgt : wr.heap.size = gt
    rintro w3 ⟨t0, t1, t2, t3, a1, f1, v0, v1, v2, hb3⟩
    rw [← hgt] at hb3
    have HL3 := Aside0.mk (HL.out.trans (hb3.mono HL.out.size))
    have HR3 := Aside0.mk (And.intro (HRow.out.1.below hb3) HRow.out.2)
    clear hb3 hgt HL HRow
    by_cases hc : con t
    ·have hz : t.f0.size = 0 := (con_size t).1 hc
     have d1 : ((t.f0.size : Int) == 0) = true := by simp [hz]
     have d1' : (t.f0.size == 0) = true := by simp [hz]
     have hM := HM.out
     rw [if_pos hc] at hM
     have hq := ne24 t.f1 v
     have HM := Aside0.mk hM
     have r1 := cell_regrown t1
     have r2 := cell_regrown t2
     have r3 := cell_regrown t3
     have r4 := cell_regrown f1
     have r5 := cell_regrown v0
     have r6 := cell_regrown v1
     have r7 := cell_regrown v2
     generalize neV t.f1 v = q at *
     clear hM hz hc
     go_upto_region 8 with fail
     refine wp_region_quiet_below mixed (by kernel_rfl) ?_
     repeat (first | go_big_quiet_step (fail) | quiet_step (fail))
     refine wpQuiet_nil ?_
     intro _ hw'
     obtain ⟨⟨dq, osq⟩, hw''⟩ := hw'
     subst hw''
     have HBq := Aside0.mk (below_regrown w3 dq osq)
     clear r1 r2 r3 r4 r5 r6 r7 hq
     cases q with
     | true =>
      have HE2 := Aside0.mk (show r = [] ∧ ok = false by have := HM.out; simp at this; first | exact ⟨this.1.symm, this.2.symm⟩ | exact ⟨this.1, this.2⟩ | exact ⟨this.1.symm, this.2⟩ | exact ⟨this.1, this.2.symm⟩)
      go_wp2
      go_ret2
      rw [HE2.out.1, HE2.out.2]
      exact ⟨none, 0, rfl, ⟨Nat.le_refl _, HN.out _⟩, HB.out.trans ((HL3.out.trans (HBq.out.mono HL3.out.size)).mono HB.out.size)⟩
     | false =>
      go_wp2
      go_roundg (ts.length - (j + 1))
      case measure => have := HJ.out; omega
      case rel => exact ⟨V, vc, m, j + 1, rfl, by go_num, by have := HJ.out; omega, Nat.le_refl _, ⟨acc, HR3.out.1.below HBq.out, HR3.out.2, HL3.out.trans (HBq.out.mono HL3.out.size), by have := HM.out; simpa using this⟩⟩
    ·have hz : t.f0.size ≠ 0 := fun h => hc ((con_size t).2 h)
     have d1 : ((t.f0.size : Int) == 0) = false := beq_false_of_ne (by omega)
     have d1' : (t.f0.size == 0) = false := by simpa using hz
     have hM := HM.out
     rw [if_neg hc] at hM
     have HM := Aside0.mk hM
     clear hM hz hc
     obtain ⟨r2, ok2, hb2⟩ : ∃ r2 ok2, bindP acc (bnd t v) = (r2, ok2) := ⟨_, _, rfl⟩
     have hd3 : Go.RowKit.Below w3.heap.size w3 w3.drew := below_drew1 (Go.RowKit.Below.refl _ _)
     have H2 : Aside0 (Calls Tryz.prog 78 #[.slice V m vc, .string t.f0, .agg #[.int .i64 v.f0, .int .i64 v.f1, .string v.f2]] w3.drew fun e w' => ∃ V vc, e = .returned (.tuple #[.slice V r2.length vc, .bool ok2]) ∧ (r2.length ≤ vc ∧ Kd.C k66 w' V r2.length r2) ∧ Go.RowKit.Below w3.heap.size w3 w') := ⟨by
      have := rbind_calls (bnd t v) (HR3.out.1.below hd3) (by have := HR3.out.2; omega) HT.out
      rw [hb2] at this
      exact this.mono fun e w' ⟨V, vc, h1, h2, h3⟩ => ⟨V, vc, h1, h2, hd3.trans h3⟩⟩
     have HLn := Aside0.mk (show r2.length ≤ 100 by have := bindP_len (l := acc) (by have := HR3.out.1.len; have := HR3.out.2; omega) (bnd t v); rwa [hb2] at this)
     have HB2 := Aside0.mk hb2
     clear hb2 hd3
     go_upto_region 10 with fail
     go_region_held3 (fun w' => w'.cell? ⟨gt, 0, none⟩ = some (.string t.f0) ∧ w'.cell? ⟨gf, 1, none⟩ = some (.slice (some ay) vs.length yc) ∧ w'.cell? (ay.add (j * 3)) = some (.int .i64 v.f0) ∧ w'.cell? ⟨(ay.add (j * 3)).block, (ay.add (j * 3)).off + 1, none⟩ = some (.int .i64 v.f1) ∧ w'.cell? ⟨(ay.add (j * 3)).block, (ay.add (j * 3)).off + 2, none⟩ = some (.string v.f2))
      (first | (refine ⟨?_, ?_, ?_, ?_, ?_⟩ <;> assumption) | go_keep)
      (first
       | (go_at_call 78; (with_reducible refine H2.out.mono ?_); rintro e w4 ⟨V2, vc2, rfl, hV, hb⟩; have HV := Aside0.mk hV; have HL4 := Aside0.mk (HL3.out.trans (hb.mono HL3.out.size)); replace t0 := mvc hb t0; replace f1 := mvc hb f1; replace v0 := mvc hb v0; replace v1 := mvc hb v1; replace v2 := mvc hb v2; clear hb hV)
       | fail)
     all_goals (
      have hM := HM.out
      rw [HB2.out] at hM
      have HM := Aside0.mk hM
      clear hM H2
      cases ok2)
     ·have HE2 := Aside0.mk (show r = [] ∧ ok = false by have := HM.out; simp at this; first | exact ⟨this.1.symm, this.2.symm⟩ | exact ⟨this.1, this.2⟩ | exact ⟨this.1.symm, this.2⟩ | exact ⟨this.1, this.2.symm⟩)
      go_wp2
      go_ret2
      rw [HE2.out.1, HE2.out.2]
      exact ⟨none, 0, rfl, ⟨Nat.le_refl _, HN.out _⟩, HB.out.trans (HL4.out.mono HB.out.size)⟩
     ·go_wp2
      go_roundg (ts.length - (j + 1))
      case measure => have := HJ.out; omega
      case rel => exact ⟨V2, vc2, r2.length, j + 1, rfl, by go_num, by have := HJ.out; omega, Nat.le_refl _, ⟨r2, ⟨rfl, HV.out.1, HV.out.2⟩, HLn.out, HL4.out, by have := HM.out; simpa using this⟩⟩
   ·have hltz : ¬ (j : Int) < (ts.length : Int) := by omega
    have hD : matchR (ts.drop j) (vs.drop j) acc = (acc, true) := by rw [List.drop_eq_nil_of_le (by omega), matchR]
    have HE2 := Aside0.mk (show r = acc ∧ ok = true by have := HI.out.2.2.2; rw [hD] at this; simp at this; first | exact ⟨this.1.symm, this.2.symm⟩ | exact ⟨this.1, this.2⟩ | exact ⟨this.1.symm, this.2⟩ | exact ⟨this.1, this.2.symm⟩)
    clear hD
    go_wp2
    go_ret2
    rw [HE2.out.1, HE2.out.2, HI.out.1.len]
    exact ⟨_, _, rfl, ⟨HI.out.1.cap, HI.out.1.C⟩, HB.out.trans (HI.out.2.2.1.mono HB.out.size)⟩
 ·have hres : r = [] ∧ ok = false := by have := HRes.out; rw [if_neg hg] at this; simp at this; first | exact ⟨this.1.symm, this.2.symm⟩ | exact ⟨this.1, this.2⟩ | exact ⟨this.1.symm, this.2⟩ | exact ⟨this.1, this.2.symm⟩
  have HE2 := Aside0.mk hres
  have hc : ((an.toList != fn.toList) = true ∧ (an.toList == fn.toList) = false) ∨ ((an.toList != fn.toList) = false ∧ (an.toList == fn.toList) = true ∧ ((ts.length : Int) != (vs.length : Int)) = true ∧ (ts.length != vs.length) = true) := by
   by_cases h1 : an = fn
   ·have h2 : ts.length ≠ vs.length := fun h => hg ⟨h1, h⟩
    exact .inr ⟨by rw [h1]; simp, by rw [h1]; simp, by simp; omega, by simpa using h2⟩
   ·have hne : an.toList ≠ fn.toList := fun h => h1 ((FactC.tl_iff _ _).1 h)
    exact .inl ⟨bne_iff_ne.2 hne, beq_false_of_ne hne⟩
  clear hres HRes hg
  rcases hc with ⟨d1, d1'⟩ | ⟨d1, d1', d2, d3⟩
  all_goals (
   go_wp2
   go_ret2
   rw [HE2.out.1, HE2.out.2]
   exact ⟨none, 0, rfl, ⟨Nat.le_refl _, HN.out _⟩, HB.out⟩)
end Go.Proofs.YtghommaokdhjmaaGreat.Sat
/- The reference's Ground: its walk; no condition but the rows' lengths. -/
namespace Go.Proofs.YtghommaokdhjmaaGreat.Sat
open Go.RowKit Go.Lib Go.Sort Go.Proofs.SymP Go.Proofs.YtghommaokdhjmaaGreatW.PrintWords P FactC IRow Frm SpecM SpecB PSat PSpec CmpF BothB SortStr Str
def groundR (a : ByteArray) (ts : List S92) (l : List S66) : ByteArray × List S64 × Bool := match grL l ts with
 | some r => (a, r, true)
 | none => ((⟨#[]⟩ : ByteArray), [], false)
set_option maxHeartbeats 8000000 in
set_option maxRecDepth 1000000 in
theorem rground_calls {w : World} {A B : Option Addr} {c bn bc : Nat} {ts : List S92} {l : List S66} (a : ByteArray) (hA : Kd.C k92 w A ts.length ts) (hcA : ts.length ≤ c) (hb : BRow w B bn bc l) (hl : bn ≤ 1000000) (htl : ts.length ≤ 1000000) : Calls Tryz.prog 56 #[.agg #[.string a, .slice A ts.length c], .slice B bn bc] w fun e w' => ∃ A' c', e = .returned (.tuple #[.agg #[.string (groundR a ts l).1, .slice A' (groundR a ts l).2.1.length c'], .bool (groundR a ts l).2.2]) ∧ ((groundR a ts l).2.1.length ≤ c' ∧ Kd.C k64 w' A' (groundR a ts l).2.1.length (groundR a ts l).2.1) ∧ Go.RowKit.Below w.heap.size w w' := by
 have hu := Tryz.underlying25
 have hu2 := Tryz.underlying58
 have hu3 := Tryz.underlying92
 have hu4 := Tryz.underlying64
 have HG : Aside0 (∀ W n, Go.RowKit.Below w.heap.size w W → Calls Tryz.prog 54 #[.slice B bn bc, .string n] W fun e w' => e = .returned (.tuple #[.agg #[.int .i64 (getP l n).1, .int .i64 (getP l n).2.1, .string (getP l n).2.2.1], .bool (getP l n).2.2.2]) ∧ Go.RowKit.Below W.heap.size W w') := ⟨fun W n hW => rget_calls (hb.below hW) hl n⟩
 have HR := Aside0.mk hA
 clear hA hb
 go_enter Tryz.func56, Tryz.ntmps56
 go_upto_region 2 with fail
 refine wp_world (fun V => GI w V a (.slice A ts.length c) w.heap.size (w.heap.size + 1) (w.heap.size + 1 + 1) (w.heap.size + 1 + 1 + 1) (.slice none 0 0) []) ⟨blk_below (blk_below (blk_new w (.cells #[.string a, .slice A ts.length c] 25)) ((Go.RowKit.Below.refl _ _).alloc (Nat.le_refl _) _)) ((Go.RowKit.Below.refl _ _).alloc (Nat.le_refl _) _), by have h := blk_below (blk_new (w.alloc (.cells #[.string a, .slice A ts.length c] 25)) (.cells #[.string ⟨#[]⟩, .slice none 0 0] 58)) ((Go.RowKit.Below.refl _ _).alloc (Nat.le_refl _) (.cells #[.string a, .slice none 0 0] 58)); simpa using h, by have h := blk_new ((w.alloc (.cells #[.string a, .slice A ts.length c] 25)).alloc (.cells #[.string ⟨#[]⟩, .slice none 0 0] 58)) (.cells #[.string a, .slice none 0 0] 58); simpa using h, ⟨[], own_nil _ _ _ _, rfl, fun j p h => by simp at h⟩, (((Go.RowKit.Below.refl _ w).alloc (Nat.le_refl _) _).alloc (by simp) _).alloc (by simp; omega) _, by omega, by omega, by omega, by omega, by simp⟩ ?_
 generalize w.heap.size + 1 = g4
 generalize g4 + 1 = g6
 generalize g6 + 1 = base
 generalize hg0 : w.heap.size = g0
 rintro w2 hI
 have HGB := Aside0.mk hg0
 clear hg0
 have HI2 := Aside0.mk hI
 have a1 : w2.cell? ⟨g0, 1, none⟩ = some (.slice A ts.length c) := blk_cell hI.bx 1
 clear hI
 go_wp2
 go_loopg [7] ts.length (fun gg s7 wr => ∃ (R : Option Addr) (rc j : Nat), s7 = .int .i64 j ∧ j ≤ ts.length ∧ ts.length - j ≤ gg ∧ Aside0 (∃ acc : List S64, acc.length = j ∧ GI w wr a (.slice A ts.length c) g0 g4 g6 base (.slice R j rc) acc ∧ (grL l ts).map (([] : List S64) ++ ·) = (grL l (ts.drop j)).map (acc ++ ·)))
 case atStart => exact ⟨none, 0, 0, rfl, Nat.zero_le _, Nat.le_refl _, ⟨[], rfl, HI2.out, rfl⟩⟩
 case round =>
  clear HI2 a1
  obtain ⟨R, rc, j, rfl, hj, hg, HI⟩ := hrel
  obtain ⟨acc, hI⟩ := HI.out
  have HI := Aside0.mk hI
  have a1 : wr.cell? ⟨g0, 1, none⟩ = some (.slice A ts.length c) := blk_cell hI.2.1.bx 1
  clear hI
  by_cases hlt : j < ts.length
  ·have hltz : (j : Int) < (ts.length : Int) := by omega
   have hjz : (0 : Int) ≤ (j : Int) := by omega
   obtain ⟨ad, eA, t0, t1, t2, t3⟩ := at_T92 (Kd.C_below HR.out HI.out.2.1.bel) (j : Int) hjz hltz
   rw [show ((j : Int)).toNat * 4 = j * 4 by omega] at t0 t1 t2 t3
   have HD := Aside0.mk (show ts.drop j = rd_T92 ts (j : Int) :: ts.drop (j + 1) by rw [List.drop_eq_getElem_cons hlt, rdT_get hlt])
   generalize rd_T92 ts (j : Int) = t at *
   have kw : IntKind.i64.wrap ((j : Int) + 1) = ((j + 1 : Nat) : Int) := by rw [show (j : Int) + 1 = ((j + 1 : Nat) : Int) by omega]; exact kwrap (by omega) (by omega)
   have HJ := Aside0.mk hlt
   have hjl : j ≤ 1000000 := by omega
   clear hlt
   subst eA
   -- the value's own box
   have hbv : Go.RowKit.Below wr.heap.size wr (wr.alloc (.cells #[.int .i64 t.f1.f0, .int .i64 t.f1.f1, .string t.f1.f2] 64)) := (Go.RowKit.Below.refl _ wr).alloc (Nat.le_refl _) _
   go_upto_region 6 with fail
   refine wp_world (fun V => V.heap[wr.heap.size]? = some (.cells #[.int .i64 t.f1.f0, .int .i64 t.f1.f1, .string t.f1.f2] 64 (0, 0)) ∧ V.cell? ⟨g0, 1, none⟩ = some (.slice (some ad) ts.length c) ∧ V.cell? (ad.add (j * 4)) = some (.string t.f0) ∧ Go.RowKit.Below wr.heap.size wr V) ⟨blk_new wr _, mvc hbv a1, mvc hbv t0, hbv⟩ ?_
   clear hbv a1 t0 t1 t2 t3
   have HLT := Aside0.mk (fun k hk => (HI.out.2.1.own.lt (k := k) hk).2)
   generalize hg8 : wr.heap.size = g8 at HLT ⊢
   rintro w3 ⟨k8, a1, t0, hb3⟩
   rw [← hg8] at hb3
   have HG8 := Aside0.mk (show base ≤ g8 by rw [← hg8]; exact HI.out.2.1.ord.2.2.2.2)
   have HI3 := Aside0.mk (And.intro HI.out.1 (And.intro (HI.out.2.1.below hb3) HI.out.2.2))
   clear hb3 hg8 HI
   by_cases hc : con t
   ·have hz := (con_size t).1 hc
    have d1 : decide ((0 : Int) < (t.f0.size : Int)) = false := decide_eq_false (by omega)
    have d1' : decide (0 < t.f0.size) = false := decide_eq_false (by omega)
    have HV : Aside0 ((grL l ts).map (([] : List S64) ++ ·) = (grL l (ts.drop (j + 1))).map ((acc ++ [t.f1]) ++ ·)) := ⟨by rw [HI3.out.2.2, HD.out, grL_con hc]⟩
    clear hz hc
    generalize t.f1 = x at *
    have k0 : w3.cell? ⟨g8, 0, none⟩ = some (.int .i64 x.f0) := blk_cell k8 0
    have k1 : w3.cell? ⟨g8, 1, none⟩ = some (.int .i64 x.f1) := blk_cell k8 1
    have k2 : w3.cell? ⟨g8, 2, none⟩ = some (.string x.f2) := blk_cell k8 2
    have u1 : w3.cell? ⟨g6, 1, none⟩ = some (.slice R j rc) := blk_cell HI3.out.2.1.blk 1
    go_wp2_with (first
     | (at_builtin; obtain ⟨A', c', w7, happ, hO, hb⟩ := appendG (W := w3) base R j rc acc x HI3.out.2.1.own HI3.out.1 HI3.out.2.1.ord.2.2.2.2 hjl; have hst := HI3.out.2.1.step hO hb; have k7 : w7.cell? ⟨g6, 1, none⟩ = some (.slice R j rc) := blk_cell hst.1 1; have f7 := blk_frozen hst.1 1; have HST := Aside0.mk hst.2; have HO7 := Aside0.mk hO; refine Lib.wpList_append_run _ (by rfl) (.tmp 51) (.tmp 53) 56 56 (by rfl) (.slice R j rc) (.slice (some ⟨w3.heap.size, 0, none⟩) 1 1) (by rfl) (by rfl) (.slice A' (j + 1) c') w7 (happ 56) ?_; clear hO hb happ hst)
     | fail)
    go_roundg (ts.length - (j + 1))
    case measure => have := HJ.out; omega
    case rel => exact ⟨A', c', j + 1, by go_num, by have := HJ.out; omega, Nat.le_refl _, ⟨acc ++ [x], by simp [HI3.out.1], HST.out, HV.out⟩⟩
   ·have hz : t.f0.size ≠ 0 := fun h => hc ((con_size t).2 h)
    have d1 : decide ((0 : Int) < (t.f0.size : Int)) = true := decide_eq_true (by omega)
    have d1' : decide (0 < t.f0.size) = true := decide_eq_true (by omega)
    have HC := Aside0.mk hc
    clear hz hc
    obtain ⟨x, ok, hgx⟩ : ∃ (x : S64) (ok : Bool), getP l t.f0 = (x.f0, x.f1, x.f2, ok) := ⟨⟨(getP l t.f0).1, (getP l t.f0).2.1, (getP l t.f0).2.2.1⟩, (getP l t.f0).2.2.2, rfl⟩
    have HGt : Aside0 (∀ W, Go.RowKit.Below w.heap.size w W → Calls Tryz.prog 54 #[.slice B bn bc, .string t.f0] W fun e w' => e = .returned (.tuple #[.agg #[.int .i64 x.f0, .int .i64 x.f1, .string x.f2], .bool ok]) ∧ Go.RowKit.Below W.heap.size W w') := ⟨fun W hW => by have := HG.out W t.f0 hW; rwa [hgx] at this⟩
    have HX := Aside0.mk hgx
    clear hgx
    go_upto_region 8 with (first
     | (go_at_call 54; with_reducible refine (HGt.out _ HI3.out.2.1.bel).mono ?_; rintro e w4 ⟨rfl, hb⟩; have HI4 := Aside0.mk (And.intro HI3.out.1 (And.intro (HI3.out.2.1.below hb) HI3.out.2.2)); replace a1 := mvc hb a1; replace t0 := mvc hb t0; replace k8 := blk_below k8 hb; clear hb)
     | fail)
    have hbx : Go.RowKit.Below w4.heap.size w4 (w4.alloc (.cells #[.int .i64 x.f0, .int .i64 x.f1, .string x.f2] 64)) := (Go.RowKit.Below.refl _ w4).alloc (Nat.le_refl _) _
    cases ok with
    | false =>
     have HE : Aside0 (grL l ts = none) := ⟨by
      have := HI3.out.2.2
      rw [HD.out, grL_no HC.out (by rw [HX.out])] at this
      cases h : grL l ts with
      | none => rfl
      | some r => rw [h] at this; simp at this⟩
     have HI5 := Aside0.mk (HI4.out.2.1.below hbx)
     refine wp_world (fun V => GI w V a (.slice (some ad) ts.length c) g0 g4 g6 base (.slice R j rc) acc) HI5.out ?_
     clear hbx HI5 a1 t0 k8
     rintro w5 hI5
     have HI5 := Aside0.mk hI5
     have q0 : w5.cell? ⟨g4, 0, none⟩ = some (.string ⟨#[]⟩) := blk_cell hI5.res 0
     have q1 : w5.cell? ⟨g4, 1, none⟩ = some (.slice none 0 0) := blk_cell hI5.res 1
     have p0 := blk_frozen hI5.res 0
     have p1 := blk_frozen hI5.res 1
     clear hI5
     go_wp2
     have kR : ((w5.setCell ⟨g4, 0, none⟩ (.string ⟨#[]⟩)).setCell ⟨g4, 1, none⟩ (.slice none 0 0)).heap[g4]? = some (.cells #[.string ⟨#[]⟩, .slice none 0 0] 58 (0, 0)) := blk_set (blk_set HI5.out.res 0 _) 1 _
     refine bodyPost_ret (results_ct rfl _ _ g4 58 #[.string ⟨#[]⟩, .slice none 0 0] (0, 0) _ rfl kR Tryz.underlying58 rfl (by kernel_rfl)) rfl ?_
     have hgr : groundR a ts l = ((⟨#[]⟩ : ByteArray), [], false) := by unfold groundR; rw [HE.out]
     rw [hgr]
     have o := HI5.out.ord
     exact ⟨none, 0, rfl, ⟨Nat.le_refl _, ⟨rfl, Nat.zero_le _, fun h => absurd h (Nat.lt_irrefl 0)⟩⟩, (HI5.out.bel.setCell (by show w.heap.size ≤ g4; omega) _).setCell (by show w.heap.size ≤ g4; omega) _⟩
    | true =>
     have HV : Aside0 ((grL l ts).map (([] : List S64) ++ ·) = (grL l (ts.drop (j + 1))).map ((acc ++ [x]) ++ ·)) := ⟨by
      rw [HI3.out.2.2, HD.out, grL_var HC.out (by rw [HX.out]), HX.out]⟩
     refine wp_world (fun V => V.heap[g8]? = some (.cells #[.int .i64 t.f1.f0, .int .i64 t.f1.f1, .string t.f1.f2] 64 (0, 0)) ∧ V.cell? ⟨w4.heap.size, 0, none⟩ = some (.int .i64 x.f0) ∧ V.cell? ⟨w4.heap.size, 1, none⟩ = some (.int .i64 x.f1) ∧ V.cell? ⟨w4.heap.size, 2, none⟩ = some (.string x.f2) ∧ V.cell? ⟨g0, 1, none⟩ = some (.slice (some ad) ts.length c) ∧ GI w V a (.slice (some ad) ts.length c) g0 g4 g6 base (.slice R j rc) acc) ⟨blk_below k8 hbx, by simp, by simp, by simp, mvc hbx a1, HI4.out.2.1.below hbx⟩ ?_
     clear hbx a1 t0 k8
     generalize w4.heap.size = g9
     rintro w5 ⟨k8, x0, x1, x2, a1, hI5⟩
     have HI5 := Aside0.mk hI5
     have k0 : w5.cell? ⟨g8, 0, none⟩ = some (.int .i64 t.f1.f0) := blk_cell k8 0
     have k1 : w5.cell? ⟨g8, 1, none⟩ = some (.int .i64 t.f1.f1) := blk_cell k8 1
     have k2 : w5.cell? ⟨g8, 2, none⟩ = some (.string t.f1.f2) := blk_cell k8 2
     have f0 := blk_frozen k8 0
     have f1 := blk_frozen k8 1
     have f2 := blk_frozen k8 2
     clear hI5
     go_upto_region 11 with fail
     have hown : ∀ k, (Value.slice R j rc).ownBlock = some k → k ≠ g8 := fun k hk e => by have := HLT.out k hk; omega
     refine wp_world (fun V => V.heap[g8]? = some (.cells #[.int .i64 x.f0, .int .i64 x.f1, .string x.f2] 64 (0, 0)) ∧ GI w V a (.slice (some ad) ts.length c) g0 g4 g6 base (.slice R j rc) acc) ⟨blk_set (blk_set (blk_set k8 0 _) 1 _) 2 _, ((HI5.out.set HG8.out hown _).set HG8.out hown _).set HG8.out hown _⟩ ?_
     clear k8 x0 x1 x2 a1 HI5 k0 k1 k2 f0 f1 f2 hown
     rintro w6 ⟨k8, hI6⟩
     have HI6 := Aside0.mk (And.intro HI3.out.1 (And.intro hI6 HI3.out.2.2))
     have k0 : w6.cell? ⟨g8, 0, none⟩ = some (.int .i64 x.f0) := blk_cell k8 0
     have k1 : w6.cell? ⟨g8, 1, none⟩ = some (.int .i64 x.f1) := blk_cell k8 1
     have k2 : w6.cell? ⟨g8, 2, none⟩ = some (.string x.f2) := blk_cell k8 2
     have u1 : w6.cell? ⟨g6, 1, none⟩ = some (.slice R j rc) := blk_cell hI6.blk 1
     clear hI6
     go_wp2_with (first
     | (at_builtin; obtain ⟨A', c', w7, happ, hO, hb⟩ := appendG (W := w6) base R j rc acc x HI6.out.2.1.own HI6.out.1 HI6.out.2.1.ord.2.2.2.2 hjl; have hst := HI6.out.2.1.step hO hb; have k7 : w7.cell? ⟨g6, 1, none⟩ = some (.slice R j rc) := blk_cell hst.1 1; have f7 := blk_frozen hst.1 1; have HST := Aside0.mk hst.2; have HO7 := Aside0.mk hO; refine Lib.wpList_append_run _ (by rfl) (.tmp 51) (.tmp 53) 56 56 (by rfl) (.slice R j rc) (.slice (some ⟨w6.heap.size, 0, none⟩) 1 1) (by rfl) (by rfl) (.slice A' (j + 1) c') w7 (happ 56) ?_; clear hO hb happ hst)
     | fail)
     go_roundg (ts.length - (j + 1))
     case measure => have := HJ.out; omega
     case rel => exact ⟨A', c', j + 1, by go_num, by have := HJ.out; omega, Nat.le_refl _, ⟨acc ++ [x], by simp [HI6.out.1], HST.out, HV.out⟩⟩
  ·have hltz : ¬ (j : Int) < (ts.length : Int) := by omega
   have HE : Aside0 (grL l ts = some acc) := ⟨by
    have := HI.out.2.2
    rw [List.drop_eq_nil_of_le (by omega)] at this
    cases h : grL l ts with
    | none => rw [h] at this; simp [grL] at this
    | some r => rw [h] at this; simpa [grL] using this⟩
   have q0 : wr.cell? ⟨g4, 0, none⟩ = some (.string ⟨#[]⟩) := blk_cell HI.out.2.1.res 0
   have q1 : wr.cell? ⟨g4, 1, none⟩ = some (.slice none 0 0) := blk_cell HI.out.2.1.res 1
   have p0 := blk_frozen HI.out.2.1.res 0
   have p1 := blk_frozen HI.out.2.1.res 1
   have u0 : wr.cell? ⟨g6, 0, none⟩ = some (.string a) := blk_cell HI.out.2.1.blk 0
   have u1 : wr.cell? ⟨g6, 1, none⟩ = some (.slice R j rc) := blk_cell HI.out.2.1.blk 1
   go_wp2
   have kR : ((wr.setCell ⟨g4, 0, none⟩ (.string a)).setCell ⟨g4, 1, none⟩ (.slice R j rc)).heap[g4]? = some (.cells #[.string a, .slice R j rc] 58 (0, 0)) := blk_set (blk_set HI.out.2.1.res 0 _) 1 _
   refine bodyPost_ret (results_ct rfl _ _ g4 58 #[.string a, .slice R j rc] (0, 0) _ rfl kR Tryz.underlying58 rfl (by kernel_rfl)) rfl ?_
   have hgr : groundR a ts l = (a, acc, true) := by unfold groundR; rw [HE.out]
   rw [hgr]
   have o := HI.out.2.1.ord
   have hown : ∀ k, (Value.slice R j rc).ownBlock = some k → k ≠ g4 := fun k hk e => by have := (HI.out.2.1.own.lt hk).1; omega
   have hrow := ((HI.out.2.1.own.set (p := ⟨g4, 0, none⟩) hown (.string a)).set (p := ⟨g4, 1, none⟩) hown (.slice R j rc)).row HI.out.1
   rw [show (a, acc, true).2.1.length = j from HI.out.1]
   exact ⟨R, rc, rfl, hrow, (HI.out.2.1.bel.setCell (by show w.heap.size ≤ g4; omega) _).setCell (by show w.heap.size ≤ g4; omega) _⟩
end Go.Proofs.YtghommaokdhjmaaGreat.Sat
/- The order of facts, as a plain law: it is an order in which what compares 0 is the same; sorted lists, each once. -/
namespace Go.Proofs.YtghommaokdhjmaaGreat.Fct
open Go.Lib Go.Shelf Go.Sort P Str CmpF
structure Ord3 {α : Type} (c : α → α → Int) : Prop where
 swap : ∀ x y, c x y = - c y x
 le : ∀ x y z, c x y ≤ 0 → c y z ≤ 0 → c x z ≤ 0
 zero : ∀ x y, c x y = 0 → x = y
section
variable {α β γ : Type} {c : α → α → Int}
theorem Ord3.self (h : Ord3 c) (x : α) : c x x = 0 := by have := h.swap x x; omega
theorem Ord3.lt (h : Ord3 c) {x y z : α} (h1 : c x y < 0) (h2 : c y z ≤ 0) : c x z < 0 := by
 have h3 := h.le x y z (by omega) h2
 by_cases e : c x z = 0
 ·obtain rfl := h.zero x z e
  have := h.swap x y
  omega
 ·omega
theorem Ord3.lex {d1 : β → β → Int} {d2 : γ → γ → Int} (h1 : Ord3 d1) (h2 : Ord3 d2) (p : α → β) (q : α → γ) (inj : ∀ x y, p x = p y → q x = q y → x = y) :
  Ord3 (fun x y => if d1 (p x) (p y) ≠ 0 then d1 (p x) (p y) else d2 (q x) (q y)) where
 swap x y := by
  have a := h1.swap (p x) (p y)
  have b := h2.swap (q x) (q y)
  by_cases e : d1 (p x) (p y) = 0
  ·have e2 : d1 (p y) (p x) = 0 := by omega
   simp [e, e2, b]
  ·have e2 : d1 (p y) (p x) ≠ 0 := by omega
   simp only [ne_eq, e, e2, not_false_eq_true, if_true]
   omega
 le x y z := by
  intro hxy hyz
  by_cases e : d1 (p x) (p y) = 0
  ·have e1 := h1.zero _ _ e
   simp only [e, ne_eq, not_true, if_false] at hxy
   rw [e1]
   by_cases e2 : d1 (p y) (p z) = 0
   ·simp only [e2, ne_eq, not_true, if_false] at hyz ⊢
    exact h2.le _ _ _ hxy hyz
   ·simp only [e2, ne_eq, not_false_eq_true, if_true] at hyz ⊢
    exact hyz
  ·simp only [e, ne_eq, not_false_eq_true, if_true] at hxy
   by_cases e2 : d1 (p y) (p z) = 0
   ·have e3 := h1.zero _ _ e2
    rw [← e3]
    simp only [e, ne_eq, not_false_eq_true, if_true]
    exact hxy
   ·simp only [e2, ne_eq, not_false_eq_true, if_true] at hyz
    have := h1.lt (x := p x) (y := p y) (z := p z) (by omega) hyz
    have e4 : d1 (p x) (p z) ≠ 0 := by omega
    simp only [e4, ne_eq, not_false_eq_true, if_true]
    omega
 zero x y := by
  intro h
  by_cases e : d1 (p x) (p y) = 0
  ·simp only [e, ne_eq, not_true, if_false] at h
   exact inj x y (h1.zero _ _ e) (h2.zero _ _ h)
  ·simp [e] at h
theorem ordS : Ord3 cmpS := ⟨cmpS_swap, cmpS_le, fun x y h => (cmpS_zero x y).1 h⟩
theorem ordI3 : Ord3 ordI where
 swap x y := by unfold ordI; split <;> split <;> (try split) <;> (try split) <;> omega
 le x y z := by unfold ordI; intro h1 h2; split at h1 <;> split at h2 <;> split <;> (try split) <;> (try split at h1) <;> (try split at h2) <;> omega
 zero x y := by unfold ordI; intro h; split at h <;> (try split at h) <;> omega
end
section
variable {α : Type} {c : α → α → Int}
theorem strict_one (h : Ord3 c) : ∀ (l m : List α), l.Pairwise (fun x y => c x y < 0) → m.Pairwise (fun x y => c x y < 0) → (∀ x, x ∈ l ↔ x ∈ m) → l = m
 | [], [], _, _, _ => rfl
 | [], y :: m, _, _, hm => absurd ((hm y).2 List.mem_cons_self) (by simp)
 | x :: l, [], _, _, hm => absurd ((hm x).1 List.mem_cons_self) (by simp)
 | x :: l, y :: m, hl, hm, hx => by
  have hl' := List.pairwise_cons.1 hl
  have hm' := List.pairwise_cons.1 hm
  have e : x = y := by
   rcases List.mem_cons.1 ((hx x).1 List.mem_cons_self) with e | e
   ·exact e
   ·rcases List.mem_cons.1 ((hx y).2 List.mem_cons_self) with e2 | e2
    ·exact e2.symm
    ·have a := hm'.1 x e
     have b := hl'.1 y e2
     have := h.swap x y
     omega
  subst e
  congr 1
  refine strict_one h l m hl'.2 hm'.2 (fun z => ⟨fun hz => ?_, fun hz => ?_⟩)
  ·rcases List.mem_cons.1 ((hx z).1 (List.mem_cons_of_mem _ hz)) with e | e
   ·have := hl'.1 z hz
    rw [e, h.self] at this
    omega
   ·exact e
  ·rcases List.mem_cons.1 ((hx z).2 (List.mem_cons_of_mem _ hz)) with e | e
   ·have := hm'.1 z hz
    rw [e, h.self] at this
    omega
   ·exact e
def insO (c : α → α → Int) (x : α) : List α → List α
 | [] => [x]
 | y :: l => if c x y < 0 then x :: y :: l else if c x y = 0 then y :: l else y :: insO c x l
def setO (c : α → α → Int) (l : List α) : List α := l.foldr (insO c) []
theorem insO_mem (h : Ord3 c) (x z : α) : ∀ l, z ∈ insO c x l ↔ z = x ∨ z ∈ l
 | [] => by simp [insO]
 | y :: l => by
  unfold insO
  split
  ·simp
  ·split
   ·rename_i e
    obtain rfl := h.zero x y e
    simp
   ·rw [List.mem_cons, insO_mem h x z l, List.mem_cons]
    constructor <;> (intro hh; rcases hh with a | a | a <;> simp [a])
theorem insO_up (h : Ord3 c) (x : α) : ∀ l : List α, l.Pairwise (fun x y => c x y < 0) → (insO c x l).Pairwise (fun x y => c x y < 0)
 | [], _ => List.pairwise_singleton _ _
 | y :: l, hl => by
  have hl' := List.pairwise_cons.1 hl
  unfold insO
  split
  ·rename_i h1
   exact List.pairwise_cons.2 ⟨fun z hz => by
    rcases List.mem_cons.1 hz with rfl | hz
    ·exact h1
    ·exact h.lt h1 (Int.le_of_lt (hl'.1 z hz)), hl⟩
  ·split
   ·exact hl
   ·refine List.pairwise_cons.2 ⟨fun z hz => ?_, insO_up h x l hl'.2⟩
    rcases (insO_mem h x z l).1 hz with rfl | hz
    ·have := h.swap z y
     omega
    ·exact hl'.1 z hz
theorem setO_up (h : Ord3 c) : ∀ l : List α, (setO c l).Pairwise (fun x y => c x y < 0)
 | [] => List.Pairwise.nil
 | x :: l => insO_up h x _ (setO_up h l)
theorem setO_mem (h : Ord3 c) (z : α) : ∀ l : List α, z ∈ setO c l ↔ z ∈ l
 | [] => Iff.rfl
 | x :: l => by
  show z ∈ insO c x (setO c l) ↔ _
  rw [insO_mem h, setO_mem h z l, List.mem_cons]
theorem insO_len (x : α) : ∀ l : List α, (insO c x l).length ≤ l.length + 1
 | [] => Nat.le_refl _
 | y :: l => by
  unfold insO
  split
  ·exact Nat.le_refl _
  ·split
   ·exact Nat.le_succ _
   ·simpa using insO_len x l
theorem setO_len : ∀ l : List α, (setO c l).length ≤ l.length
 | [] => Nat.le_refl _
 | x :: l => Nat.le_trans (insO_len x _) (Nat.succ_le_succ (setO_len l))
theorem setO_one (h : Ord3 c) {l r : List α} (h1 : r.Pairwise (fun x y => c x y < 0)) (h2 : ∀ x, x ∈ r ↔ x ∈ l) : r = setO c l :=
 strict_one h _ _ h1 (setO_up h l) (fun x => (h2 x).trans (setO_mem h x l).symm)
end
theorem cmpV_lex : Ord3 cmpV := by
 have h := (ordI3.lex (ordI3.lex ordS (fun p : Int × ByteArray => p.1) (fun p => p.2) (fun x y a b => Prod.ext a b)) (fun x : S64 => x.f0) (fun x => (x.f1, x.f2)) (fun x y a b => by
  obtain ⟨b1, b2⟩ := Prod.mk.inj b
  cases x; cases y
  simp only [S64.mk.injEq]
  exact ⟨a, b1, b2⟩))
 have e : cmpV = fun x y => if ordI x.f0 y.f0 ≠ 0 then ordI x.f0 y.f0 else if ordI x.f1 y.f1 ≠ 0 then ordI x.f1 y.f1 else cmpS x.f2 y.f2 := by
  funext x y
  unfold cmpV
  simp only [orL]
  by_cases hz : cmpS x.f2 y.f2 = 0 <;> simp [hz]
 rw [e]; exact h
theorem cmpL_ord : Ord3 compareL where
 swap := by
  intro x
  induction x with
  | nil => intro y; cases y <;> simp [compareL]
  | cons p x ih =>
   intro y
   cases y with
   | nil => simp [compareL]
   | cons q y =>
    have a := cmpV_lex.swap p q
    simp only [compareL]
    by_cases e : cmpV p q = 0
    ·rw [if_pos e, if_pos (by omega)]; exact ih y
    ·rw [if_neg e, if_neg (by omega)]; exact a
 le := by
  intro x
  induction x with
  | nil => intro y z _ _; cases z <;> simp [compareL]
  | cons p x ih =>
   intro y z h1 h2
   cases y with
   | nil => simp [compareL] at h1
   | cons q y =>
    cases z with
    | nil => simp [compareL] at h2
    | cons r z =>
     simp only [compareL] at h1 h2 ⊢
     by_cases e : cmpV p q = 0
     ·obtain rfl := cmpV_lex.zero _ _ e
      rw [if_pos e] at h1
      by_cases e2 : cmpV p r = 0
      ·rw [if_pos e2] at h2 ⊢
       exact ih y z h1 h2
      ·rw [if_neg e2] at h2 ⊢
       exact h2
     ·rw [if_neg e] at h1
      by_cases e2 : cmpV q r = 0
      ·obtain rfl := cmpV_lex.zero _ _ e2
       rw [if_neg e]; exact h1
      ·rw [if_neg e2] at h2
       have := cmpV_lex.lt (x := p) (y := q) (z := r) (by omega) h2
       rw [if_neg (by omega)]; omega
 zero := by
  intro x
  induction x with
  | nil => intro y h; cases y <;> simp [compareL] at h ⊢
  | cons p x ih =>
   intro y h
   cases y with
   | nil => simp [compareL] at h
   | cons q y =>
    simp only [compareL] at h
    by_cases e : cmpV p q = 0
    ·rw [if_pos e] at h
     rw [cmpV_lex.zero _ _ e, ih y h]
    ·rw [if_neg e] at h; exact absurd h e
def cf53 (x y : S58) : Int := factCmp x.f0 x.f1 y.f0 y.f1
theorem ord53 : Ord3 cf53 := by
 have h := (ordS.lex cmpL_ord (fun x : S58 => x.f0) (fun x => x.f1) (fun x y a b => by
  cases x; cases y
  simp only [S58.mk.injEq]
  exact ⟨a, b⟩))
 have h2 := (ordS.lex (ordI3.lex cmpL_ord (fun p : List S64 => (p.length : Int)) (fun p => p) (fun x y a b => b)) (fun x : S58 => x.f0) (fun x => x.f1) (fun x y a b => by
  cases x; cases y
  simp only [S58.mk.injEq]
  exact ⟨a, b⟩))
 have e : cf53 = fun x y => if cmpS x.f0 y.f0 ≠ 0 then cmpS x.f0 y.f0 else if ordI (x.f1.length : Int) (y.f1.length : Int) ≠ 0 then ordI (x.f1.length : Int) (y.f1.length : Int) else compareL x.f1 y.f1 := by
  funext x y
  unfold cf53 factCmp
  simp only [orL]
  by_cases hz : compareL x.f1 y.f1 = 0 <;> simp [hz]
 rw [e]; exact h2
end Go.Proofs.YtghommaokdhjmaaGreat.Fct
namespace Go.Proofs.YtghommaokdhjmaaGreat.P
open Go.RowKit Go.Proofs.YtghommaokdhjmaaGreatW.PrintWords Go.Proofs.YtghommaokdhjmaaGreatW.PrintLast Gate
def qf55.f (a0 : ByteArray) : Option (Int × ByteArray × (List (S92)) × Int × Int) := some (1, a0, (([(⟨(⟨#[88]⟩ : ByteArray), (⟨0, 0, (⟨#[]⟩ : ByteArray)⟩ : S64)⟩ : S92)] : List (S92))), 0, 0)
set_option maxHeartbeats 8000000 in
set_option maxRecDepth 100000 in
theorem qf55.calls (a0 : ByteArray) (r1 : Int) (r2 : ByteArray) (r3 : List (S92)) (r4 : Int) (r5 : Int) (w : World) (h : qf55.f a0 = some (r1, r2, r3, r4, r5)) :
  Calls Tryz.prog 55 #[.string a0] w fun e w' => ∃ v2_ : Value, e = .returned (.agg #[.int .i64 r1, .string r2, v2_, .int .i64 r4, .int .i64 r5]) ∧ Kd.R k92 92 w' w.heap.size (fun _ => True) v2_ r3 ∧ Below w.heap.size w w' := by
 have hu62 := Tryz.underlying62
 have hu92 := Tryz.underlying92
 have hu25 := Tryz.underlying25
 have HB := Aside0.mk (Below.refl w.heap.size w)
 have H : (some (1, a0, (([(⟨(⟨#[88]⟩ : ByteArray), (⟨0, 0, (⟨#[]⟩ : ByteArray)⟩ : S64)⟩ : S92)] : List (S92))), 0, 0)) = some (r1, r2, r3, r4, r5) := h
 clear h
 obtain ⟨y405, hy405⟩ : ∃ y_ : List (S92), y_ = (([(⟨(⟨#[88]⟩ : ByteArray), (⟨0, 0, (⟨#[]⟩ : ByteArray)⟩ : S64)⟩ : S92)] : List (S92))) := ⟨_, rfl⟩
 replace H : (some (1, a0, y405, 0, 0)) = some (r1, r2, r3, r4, r5) := by first | (rw [hy405]; with_reducible exact H) | (have H2_ := (Option.bind_some _ _).symm.trans H; rw [hy405]; with_reducible exact H2_) | (have H2_ := (Option.bind_some _ _).symm.trans H; with_reducible exact H2_) | with_reducible exact H | (rw [hy405]; exact H) | exact H
 have Ny405 := Aside0.mk hy405
 clear hy405
 simp only [Option.some.injEq, Prod.mk.injEq] at H
 obtain ⟨rfl, rfl, rfl, rfl, rfl⟩ := H
 go_enter Tryz.func55, Tryz.ntmps55
 go_wp2_with (first | ((with_reducible refine gate_dst (N := 2) rfl ?_); refine bE (N := 2) (cs := #[.int .i64 0, .string (⟨#[]⟩ : ByteArray), .slice none 0 0, .int .i64 0, .int .i64 0]) (t := 62) ?_; intro gb404 hg w2 hbox hb; have n0_ := Aside0.mk (below_step bB0 hb); have n1_ := Aside0.mk (hbox); have n2_ := Aside0.mk ((by rw [hg]; exact (below_size bB0) : w.heap.size ≤ gb404)); have n3_ := Aside0.mk ((by rw [hg]; exact (below_size bB0) : w.heap.size ≤ gb404)); clear HB; have HB := n0_; have BK404 := n1_; have GW404 := n2_; have GE404 := n3_; clear n0_ n1_ n2_ n3_; clear hb hbox hg) | ((with_reducible refine gate_dst (N := 5) rfl ?_); refine Kd.R_lit k92 _ 92 ?hg (N := 5) ?hd (xs := ([(⟨(⟨#[88]⟩ : ByteArray), (⟨0, 0, (⟨#[]⟩ : ByteArray)⟩ : S64)⟩ : S92)] : List (S92))) (inner := [.string (⟨#[88]⟩ : ByteArray), .int .i64 0, .int .i64 0, .string (⟨#[]⟩ : ByteArray)]) (ok := fun _ => True) (okp := fun _ => True) ?hr ?hp (fun _ hk => hk) trivial (Below.refl _ _) (Nat.le_refl _) (by simp) ?_; (case hd => rfl); (case hg => rfl); (case hr => first | (go_simp; done) | (go_simp; rfl)); (case hp => exact (Reps.c4 (show Kd.M k92 _ _ _ (⟨(⟨#[88]⟩ : ByteArray), (⟨0, 0, (⟨#[]⟩ : ByteArray)⟩ : S64)⟩ : S92) [.string (⟨#[88]⟩ : ByteArray), .int .i64 0, .int .i64 0, .string (⟨#[]⟩ : ByteArray)] from (k92_mkM _ _ _ (⟨(⟨#[88]⟩ : ByteArray), (⟨0, 0, (⟨#[]⟩ : ByteArray)⟩ : S64)⟩ : S92) )) (Reps.none _ _))); intro v406 w3 ho4 hb hg_ hnew_; clear hg_ hnew_; (first | rw [← Ny405.out] at ho4 | (simp only [Int.reduceToNat] at ho4; rw [← Ny405.out] at ho4)); have n0_ := Aside0.mk (Kd.R_lower ho4 (below_size (bB1 GE404.out))); have n1_ := Aside0.mk (blk_below (g := gb404) (o := .cells #[.int .i64 0, .string (⟨#[]⟩ : ByteArray), .slice none 0 0, .int .i64 0, .int .i64 0] 62 (0, 0)) (by refine bk ?_; exact BK404.out) hb); have n2_ := Aside0.mk (below_step (bB1 GE404.out) hb); clear BK404; clear HB; have HO407 := n0_; have BK404 := n1_; have HB := n2_; clear n0_ n1_ n2_; clear hb ho4; obtain ⟨Ao5, co5, eo5⟩ := Kd.R_slice HO407.out; subst eo5; have hcz6_0 : w3.cell? ⟨gb404, 0, none⟩ = some (.int .i64 0) := (blk_cell BK404.out 0).trans rfl; have hcz6_1 : w3.cell? ⟨gb404, 1, none⟩ = some (.string (⟨#[]⟩ : ByteArray)) := (blk_cell BK404.out 1).trans rfl; have hcz6_2 : w3.cell? ⟨gb404, 2, none⟩ = some (.slice none 0 0) := (blk_cell BK404.out 2).trans rfl; have hcz6_3 : w3.cell? ⟨gb404, 3, none⟩ = some (.int .i64 0) := (blk_cell BK404.out 3).trans rfl; have hcz6_4 : w3.cell? ⟨gb404, 4, none⟩ = some (.int .i64 0) := (blk_cell BK404.out 4).trans rfl; have hfz6_0 := blk_frozen BK404.out 0; have hfz6_1 := blk_frozen BK404.out 1; have hfz6_2 := blk_frozen BK404.out 2; have hfz6_3 := blk_frozen BK404.out 3; have hfz6_4 := blk_frozen BK404.out 4))
 refine bodyPost_ret (results_cell_row rfl _ _ gb404 62 #[.int .i64 1, .string a0, .slice Ao5 y405.length co5, .int .i64 0, .int .i64 0] (0, 0) _ rfl (by refine bk ?_; refine blk_put (cs := #[.int .i64 1, .string a0, .slice Ao5 y405.length co5, .int .i64 0, .int .i64 0]) ?_ 4 _ rfl; refine bk ?_; refine blk_put (cs := #[.int .i64 1, .string a0, .slice Ao5 y405.length co5, .int .i64 0, .int .i64 0]) ?_ 3 _ rfl; refine bk ?_; refine blk_put (cs := #[.int .i64 1, .string a0, .slice none 0 0, .int .i64 0, .int .i64 0]) ?_ 2 _ rfl; refine bk ?_; refine blk_put (cs := #[.int .i64 1, .string (⟨#[]⟩ : ByteArray), .slice none 0 0, .int .i64 0, .int .i64 0]) ?_ 1 _ rfl; refine bk ?_; refine blk_put (cs := #[.int .i64 0, .string (⟨#[]⟩ : ByteArray), .slice none 0 0, .int .i64 0, .int .i64 0]) ?_ 0 _ rfl; refine bk ?_; exact BK404.out) Tryz.underlying62 rfl (by kernel_rfl)) rfl ?_
 exact ⟨_, eW, by (with_reducible repeat (first | apply Kd.R_alloc | apply Kd.R_drewN | apply Kd.R_drew)); exact Kd.R_mono (Kd.R_far (p := ⟨gb404, 4, none⟩) (Kd.R_far (p := ⟨gb404, 3, none⟩) (Kd.R_far (p := ⟨gb404, 2, none⟩) (Kd.R_far (p := ⟨gb404, 1, none⟩) (Kd.R_far (p := ⟨gb404, 0, none⟩) (Kd.R_types HO407.out BK404.out (by decide)) (fun _ hk => hk.2) (.int .i64 1)) (fun _ hk => hk.2) (.string a0)) (fun _ hk => hk.2) (.slice Ao5 y405.length co5)) (fun _ hk => hk.2) (.int .i64 0)) (fun _ hk => hk.2) (.int .i64 0)) (fun _ hk => trivial), (bB1 GE404.out)⟩
end Go.Proofs.YtghommaokdhjmaaGreat.P
/- The statements' witness, walked: it answers true. -/
namespace Go.Proofs.YtghommaokdhjmaaGreat.Sat
open Go.RowKit Go.Lib Go.Sort Go.Proofs.SymP Go.Proofs.YtghommaokdhjmaaGreatW.PrintWords P FactC IRow Frm SpecM SpecB PSat PSpec CmpF BothB SortStr Str
theorem rb {α : Type} {R : α → List Value → Prop} {size g : Nat} {ty : TypeId} {W : World} {cs : Array Value} {ps : List α} {n : Nat} (hg : W.heap[g]? = some (.cells cs ty (0, 0))) (hr : Reps R size ps cs.toList) (hn : ps.length = n) (hl : n ≤ 1000000) : ReadsRow R size W (some ⟨g, 0, none⟩) n ps := by
 subst hn
 refine ⟨rfl, by omega, fun _ => ⟨_, rfl, fun j p hj => ⟨(cs.toList.drop (j * size)).take size, ?_, hr.2 j p hj, fun i u hu => ?_⟩⟩⟩
 ·have hjl := (List.getElem?_eq_some_iff.1 hj).1
  have h1 := hr.1
  have h2 : (j + 1) * size ≤ ps.length * size := Nat.mul_le_mul_right _ hjl
  rw [Nat.add_mul, Nat.one_mul] at h2
  rw [List.length_take, List.length_drop]
  omega
 ·rw [Addr.add_lit, blk_cell hg, ← Array.getElem?_toList]
  rw [List.getElem?_take, List.getElem?_drop] at hu
  split at hu
  ·rw [Nat.zero_add]; exact hu
  ·cases hu
theorem first_row {W : World} {g n c : Nat} {x : S62} {l : List S62} (h : NRow W (some ⟨g, 0, none⟩) n c (x :: l)) : NRow W (some ⟨g, 0, none⟩) 1 c [x] := by
 have hl := h.len
 have hc := h.cap
 simp only [List.length_cons] at hl
 refine ⟨rfl, by omega, rfl, by omega, fun _ => ?_⟩
 obtain ⟨ad, e, hr⟩ := h.C.2.2 (by omega)
 refine ⟨ad, e, fun j p hj => ?_⟩
 rcases j with _ | j
 ·exact hr 0 p (by simpa using hj)
 ·simp at hj
theorem p_calls {w : World} (s : ByteArray) : Calls Tryz.prog 55 #[.string s] w fun e w' => ∃ A c, e = .returned (.agg #[.int .i64 1, .string s, .slice A 1 c, .int .i64 0, .int .i64 0]) ∧ 1 ≤ c ∧ Kd.C k92 w' A 1 [tX] ∧ Go.RowKit.Below w.heap.size w w' := by
 refine (qf55.calls s 1 s [tX] 0 0 w rfl).mono ?_
 rintro e w' ⟨v, rfl, hR, hb⟩
 obtain ⟨A, c, rfl, h1, h2⟩ := Kd.R_reads hR
 exact ⟨A, c, rfl, h1, h2, hb⟩
theorem tC {W : World} {g : Nat} (h : W.heap[g]? = some (.cells #[.int .i64 1, .int .i64 1, .string ⟨#[]⟩] 64 (0, 0))) : Kd.C k64 W (some ⟨g, 0, none⟩) 1 [v1] := rb h (Reps.c3 (k64_mk W v1) (Reps.none _ _)) rfl (by decide)
theorem bC {W : World} {g : Nat} (h : W.heap[g]? = some (.cells #[.string ⟨#[88]⟩, .int .i64 1, .int .i64 1, .string ⟨#[]⟩] 66 (0, 0))) : BRow W (some ⟨g, 0, none⟩) 1 1 [bX] := ⟨rfl, Nat.le_refl _, rb h (Reps.c4 (k66_mk W bX) (Reps.none _ _)) rfl (by decide)⟩
theorem fC {W : World} {g g1 g2 : Nat} (h : W.heap[g]? = some (.cells #[.string ⟨#[113]⟩, .slice (some ⟨g1, 0, none⟩) 1 1, .string ⟨#[114]⟩, .slice (some ⟨g2, 0, none⟩) 1 1] 58 (0, 0))) (h1 : Kd.C k64 W (some ⟨g1, 0, none⟩) 1 [v1]) (h2 : Kd.C k64 W (some ⟨g2, 0, none⟩) 1 [v1]) : TRow W (some ⟨g, 0, none⟩) 2 2 [fQ, fR] :=
 ⟨rfl, Nat.le_refl _, rb h (Reps.c2 (k58_mk W fQ (A1 := some ⟨g1, 0, none⟩) (c1 := 1) (Nat.le_refl _) h1) (Reps.c2 (k58_mk W fR (A1 := some ⟨g2, 0, none⟩) (c1 := 1) (Nat.le_refl _) h2) (Reps.none _ _))) rfl (by decide)⟩
theorem nC {W : World} {g c : Nat} {A : Option Addr} (h : W.heap[g]? = some (.cells #[.int .i64 1, .string ⟨#[113]⟩, .slice A 1 c, .int .i64 0, .int .i64 0, .int .i64 6, .string ⟨#[]⟩, .slice none 0 0, .int .i64 0, .int .i64 0] 62 (0, 0))) (hc : 1 ≤ c) (h1 : Kd.C k92 W A 1 [tX]) : NRow W (some ⟨g, 0, none⟩) 2 2 [xQ, xO] :=
 ⟨rfl, Nat.le_refl _, rb h (Reps.c5 (k62_mk W xQ (A2 := A) (c2 := c) hc h1) (Reps.c5 (k62_mk W xO (A2 := none) (c2 := 0) (Nat.le_refl _) ⟨rfl, Nat.zero_le _, fun h => absurd (show 0 < 0 from h) (Nat.lt_irrefl 0)⟩) (Reps.none _ _))) rfl (by decide)⟩
theorem field_atom (W : World) (s : ByteArray) (A : Option Addr) (c : Nat) : (Instr.field 62 (.agg #[.int .i64 1, .string s, .slice A 1 c, .int .i64 0, .int .i64 0]) 1).run Tryz.prog W = .ok (.agg #[.string s, .slice A 1 c]) W := by kernel_rfl
theorem al1 (W : World) (a b : Obj) : ((W.alloc a).alloc b).heap[W.heap.size + 1]? = some b := by have := blk_new (W.alloc a) b; simpa using this
theorem al2 (W : World) (a b c : Obj) : (((W.alloc a).alloc b).alloc c).heap[W.heap.size + 2]? = some c := by have := blk_new ((W.alloc a).alloc b) c; simpa using this
set_option maxHeartbeats 8000000 in
set_option maxRecDepth 1000000 in
theorem wakes_calls (w : World) : Calls Tryz.prog 24 #[] w fun e w' => e = .returned (.bool true) ∧ Go.RowKit.Below w.heap.size w w' := by
 have hu1 := Tryz.underlying64
 have hu2 := Tryz.underlying58
 have hu3 := Tryz.underlying66
 have hu4 := Tryz.underlying62
 go_enter Tryz.func24, Tryz.ntmps24
 go_upto_region 2 with fail
 refine wp_world (fun V => V.cell? ⟨w.heap.size, 0, none⟩ = some (.int .i64 1) ∧ V.cell? ⟨w.heap.size, 1, none⟩ = some (.int .i64 1) ∧ V.cell? ⟨w.heap.size, 2, none⟩ = some (.string ⟨#[]⟩) ∧ Go.RowKit.Below w.heap.size w V) ⟨by simp, by simp, by simp, (Go.RowKit.Below.refl _ w).alloc (Nat.le_refl _) _⟩ ?_
 rintro w1 ⟨z0, z1, z2, hb1⟩
 have q0 := cell_al (.cells #[.int .i64 1, .int .i64 1, .string ⟨#[]⟩] 64) z0
 have q1 := cell_al (.cells #[.int .i64 1, .int .i64 1, .string ⟨#[]⟩] 64) z1
 have q2 := cell_al (.cells #[.int .i64 1, .int .i64 1, .string ⟨#[]⟩] 64) z2
 have HB1 := Aside0.mk hb1
 clear hb1
 go_upto_region 3 with fail
 have hbA : Go.RowKit.Below w1.heap.size w1 (((w1.alloc (.cells #[.int .i64 1, .int .i64 1, .string ⟨#[]⟩] 64)).alloc (.cells #[.int .i64 1, .int .i64 1, .string ⟨#[]⟩] 64)).alloc (.cells #[.string ⟨#[113]⟩, .slice (some ⟨w1.heap.size, 0, none⟩) 1 1, .string ⟨#[114]⟩, .slice (some ⟨w1.heap.size + 1, 0, none⟩) 1 1] 58)) := by repeat (first | exact Go.RowKit.Below.refl _ _ | apply below_alloc)
 refine wp_world (fun V => TRow V (some ⟨w1.heap.size + 1 + 1, 0, none⟩) 2 2 [fQ, fR] ∧ V.cell? ⟨w.heap.size, 0, none⟩ = some (.int .i64 1) ∧ V.cell? ⟨w.heap.size, 1, none⟩ = some (.int .i64 1) ∧ V.cell? ⟨w.heap.size, 2, none⟩ = some (.string ⟨#[]⟩) ∧ Go.RowKit.Below w.heap.size w V)
  ⟨fC (al2 w1 _ _ _) (tC (((((Go.RowKit.Below.refl _ (w1.alloc _)).alloc (Nat.le_refl _) _).alloc (by simp) _).block _ (by simp)).trans (blk_new w1 _))) (tC ((((Go.RowKit.Below.refl _ ((w1.alloc _).alloc _)).alloc (Nat.le_refl _) _).block _ (by simp)).trans (al1 w1 _ _))), mvc hbA z0, mvc hbA z1, mvc hbA z2, HB1.out.trans (hbA.mono HB1.out.size)⟩ ?_
 generalize w1.heap.size + 1 + 1 = gt
 clear z0 z1 z2 q0 q1 q2 hbA HB1
 rintro w2 ⟨hT, z0, z1, z2, hb2⟩
 have HT := Aside0.mk hT
 have HB2 := Aside0.mk hb2
 clear hT hb2
 go_upto_region 4 with fail
 have hbB : Go.RowKit.Below w2.heap.size w2 (w2.alloc (.cells #[.string ⟨#[88]⟩, .int .i64 1, .int .i64 1, .string ⟨#[]⟩] 66)) := (Go.RowKit.Below.refl _ w2).alloc (Nat.le_refl _) _
 refine wp_world (fun V => TRow V (some ⟨gt, 0, none⟩) 2 2 [fQ, fR] ∧ BRow V (some ⟨w2.heap.size, 0, none⟩) 1 1 [bX] ∧ Go.RowKit.Below w.heap.size w V) ⟨HT.out.below hbB, bC (blk_new w2 _), HB2.out.trans (hbB.mono HB2.out.size)⟩ ?_
 generalize w2.heap.size = gb
 clear z0 z1 z2 hbB HT HB2
 rintro w3 ⟨hT, hB, hb3⟩
 have H3 := Aside0.mk (And.intro hT (And.intro hB hb3))
 clear hT hB hb3
 go_upto_region 5 with (go_at_call 55; with_reducible refine (p_calls _).mono ?_; rintro e w4 ⟨A, c, rfl, hc, hC, hb⟩; have H4 := Aside0.mk (And.intro hc (And.intro hC hb)); clear hc hC hb)
 have hbN : Go.RowKit.Below w4.heap.size w4 (w4.alloc (.cells #[.int .i64 1, .string ⟨#[113]⟩, .slice A 1 c, .int .i64 0, .int .i64 0, .int .i64 6, .string ⟨#[]⟩, .slice none 0 0, .int .i64 0, .int .i64 0] 62)) := (Go.RowKit.Below.refl _ w4).alloc (Nat.le_refl _) _
 refine wp_world (fun V => NRow V (some ⟨w4.heap.size, 0, none⟩) 2 2 [xQ, xO] ∧ TRow V (some ⟨gt, 0, none⟩) 2 2 [fQ, fR] ∧ BRow V (some ⟨gb, 0, none⟩) 1 1 [bX] ∧ Go.RowKit.Below w.heap.size w V)
  ⟨nC (blk_new w4 _) H4.out.1 (Kd.C_below H4.out.2.1 hbN), (H3.out.1.below H4.out.2.2).below hbN, (H3.out.2.1.below H4.out.2.2).below hbN, (H3.out.2.2.trans (H4.out.2.2.mono H3.out.2.2.size)).trans (hbN.mono (Nat.le_trans H3.out.2.2.size H4.out.2.2.size))⟩ ?_
 generalize w4.heap.size = gn
 clear hbN H3 H4
 rintro w5 ⟨hN, hT, hB, hb5⟩
 have HB5 := Aside0.mk hb5
 have C1 : Aside0 (∀ W, Go.RowKit.Below w5.heap.size w5 W → Calls Tryz.prog 14 #[.slice (some ⟨gn, 0, none⟩) 2 2, .slice (some ⟨gt, 0, none⟩) 2 2, .int .i64 1, .slice (some ⟨gb, 0, none⟩) 1 1] W fun e w' => e = .returned (.tuple #[.bool true, .int .i64 0]) ∧ Go.RowKit.Below W.heap.size W w') := ⟨fun W hW => by
  have := Holds_calls (i := 1) (hN.below hW) (hT.below hW) (hB.below hW) fit_qo (by decide) fit_t (by decide) (by decide)
  rwa [hV_qo, hE_qo] at this⟩
 have C2 : Aside0 (∀ W, Go.RowKit.Below w5.heap.size w5 W → Calls Tryz.prog 14 #[.slice (some ⟨gn, 0, none⟩) 1 2, .slice (some ⟨gt, 0, none⟩) 2 2, .int .i64 1, .slice (some ⟨gb, 0, none⟩) 1 1] W fun e w' => e = .returned (.tuple #[.bool false, .int .i64 0]) ∧ Go.RowKit.Below W.heap.size W w') := ⟨fun W hW => by
  have := Holds_calls (i := 1) (first_row (hN.below hW)) (hT.below hW) (hB.below hW) fit_q (by decide) fit_t (by decide) (by decide)
  rwa [hV_q, hE_q] at this⟩
 have C3 : Aside0 (∀ W, Go.RowKit.Below w5.heap.size w5 W → Calls Tryz.prog 14 #[.slice (some ⟨gn, 0, none⟩) 2 2, .slice (some ⟨gt, 0, none⟩) 2 2, .int .i64 1, .slice none 0 0] W fun e w' => (∃ q, e = .returned (.tuple #[.bool q, .int .i64 5])) ∧ Go.RowKit.Below W.heap.size W w') := ⟨fun W hW => by
  have := Holds_calls (i := 1) (b := []) (B := none) (bn := 0) (bc := 0) (hN.below hW) (hT.below hW) ⟨rfl, Nat.le_refl _, rfl, Nat.zero_le _, fun h => absurd (show 0 < 0 from h) (Nat.lt_irrefl 0)⟩ fit_qo (by decide) fit_t (by decide) (by decide)
  rw [hE_no] at this
  exact this.mono fun e w' h => ⟨⟨_, h.1⟩, h.2⟩⟩
 have C4 : Aside0 (∀ W A c, Go.RowKit.Below w5.heap.size w5 W → 1 ≤ c → Kd.C k92 W A 1 [tX] → Calls Tryz.prog 15 #[.agg #[.string ⟨#[97]⟩, .string ⟨#[114]⟩, .slice A 1 c, .slice (some ⟨gn, 0, none⟩) 1 2], .slice (some ⟨gt, 0, none⟩) 2 2, .int .i64 1] W fun e w' => (∃ V vc, e = .returned (.tuple #[.slice V 1 vc, .bool true, .int .i64 0]) ∧ 1 ≤ vc ∧ Kd.C k66 w' V 1 [bX]) ∧ Go.RowKit.Below W.heap.size W w') := ⟨fun W A c hW hc hC => by
  have hP : PatW W A (some ⟨gn, 0, none⟩) 1 c 2 [xQ] nA nR [tX] := ⟨first_row (hN.below hW), fit_q, hC, hc, ⟨by decide, by decide, by decide⟩, by decide⟩
  obtain ⟨z, _, hz2, hz⟩ := patternG hP
  obtain rfl : z = 0 := hz2 (by unfold rightB; rw [name_a, mat_r, chk_q]; rfl) (by unfold subB; rw [varsN_q, vars_X]; simp) rfl rfl
  exact wrongG (p := 1) hP hz (fun _ => chk_q) (hT.below hW) fit_t (by decide) tr_w (by decide) one_r (by decide) sem_q (.inr (.inr (.inr (.inr ⟨rfl, rfl, rfl, rfl, rfl, rfl, rfl⟩))))⟩
 have C5 : Aside0 (∀ W V vc, Go.RowKit.Below w5.heap.size w5 W → 1 ≤ vc → Kd.C k66 W V 1 [bX] → Calls Tryz.prog 20 #[.slice V 1 vc, .slice (some ⟨gb, 0, none⟩) 1 1] W fun e w' => e = .returned (.bool true) ∧ Go.RowKit.Below W.heap.size W w') := ⟨fun W V vc hW hc hC => by
  obtain ⟨k, hk⟩ := (ev_binds (a := [bX]) (by decide) [bX]).rounds
  rw [decide_eq_true rfl] at hk
  exact (qf20.calls k V vc [bX] (some ⟨gb, 0, none⟩) 1 [bX] true W hC hc (hB.below hW).C (Nat.le_refl _) hk).mono fun e w' h => ⟨h.1, h.2.below⟩⟩
 clear hN hT hB hb5
 have hr5 := Go.RowKit.Below.refl w5.heap.size w5
 have HR5 := Aside0.mk hr5
 clear hr5
 go_wp2_with (first
  | (go_at_call 14; with_reducible refine (C1.out _ HR5.out).mono ?_; rintro e w6 ⟨rfl, hb⟩; have HB6 := Aside0.mk (HR5.out.trans (hb.mono HR5.out.size)); clear hb C1)
  | (go_at_call 14; with_reducible refine (C2.out _ HB6.out).mono ?_; rintro e w7 ⟨rfl, hb⟩; have HB7 := Aside0.mk (HB6.out.trans (hb.mono HB6.out.size)); clear hb C2)
  | fail)
 have hfld := field_atom
 have C4' := Aside0.mk C4.out
 clear C4
 have hd7 : Go.RowKit.Below w7.heap.size w7 w7.drew := below_drew1 (Go.RowKit.Below.refl _ _)
 have HD7 := Aside0.mk (HB7.out.trans (hd7.mono HB7.out.size))
 clear hd7
 go_region_held3 (fun _ => True) (trivial)
  (first
   | (go_at_call 55; (with_reducible refine (p_calls _).mono ?_); rintro e w8 ⟨A', c', rfl, hc, hC, hb⟩; have HB8 := Aside0.mk (HD7.out.trans (hb.mono HD7.out.size)); have HC8 := Aside0.mk (And.intro hc hC); clear hc hC hb)
   | (go_at_call 15; (with_reducible refine (C4'.out _ _ _ HB8.out HC8.out.1 HC8.out.2).mono ?_); rintro e w9 ⟨⟨V, vc, rfl, hv⟩, hb⟩; have HB9 := Aside0.mk (HB8.out.trans (hb.mono HB8.out.size)); have HV9 := Aside0.mk hv; clear hv hb)
   | fail)
 all_goals (
  go_wp2_with (first
   | (go_at_call 14; with_reducible refine (C3.out _ HB9.out).mono ?_; rintro e w10 ⟨⟨q, rfl⟩, hb⟩; have HB10 := Aside0.mk (HB9.out.trans (hb.mono HB9.out.size)); have HV10 := Aside0.mk (And.intro HV9.out.1 (Kd.C_below HV9.out.2 hb)); clear hb)
   | (go_at_call 20; with_reducible refine (C5.out _ _ _ HB10.out HV10.out.1 HV10.out.2).mono ?_; rintro e w11 ⟨rfl, hb⟩; have HB11 := Aside0.mk (HB10.out.trans (hb.mono HB10.out.size)); clear hb)
   | fail)
  go_ret
  exact ⟨rfl, HB5.out.trans (HB11.out.mono HB5.out.size)⟩)
end Go.Proofs.YtghommaokdhjmaaGreat.Sat
namespace Go.Proofs.YtghommaokdhjmaaGreat.P
open Go.RowKit Go.Proofs.YtghommaokdhjmaaGreatW.PrintWords Go.Proofs.YtghommaokdhjmaaGreatW.PrintLast Gate
def qf30.l0 : Nat → List (S58) → Int → Option (Bool)
 | 0, _, _ => none
 | k + 1, x0, x3 => if x3 < (x0.length : Int) then (if 0 ≤ x3 then ((qf62.f k ((rd_T58 x0 x3).f0) ((rd_T58 x0 x3).f1)).bind fun t109 => (if t109 = true then (some true) else (qf30.l0 k x0 (wrap64 (x3 + 1))))) else (none)) else (some false)
def qf30.f (k : Nat) (l0 : List (S58)) : Option (Bool) := if (l0.length : Int) > 60 then (some true) else (qf30.l0 k l0 0)
set_option maxHeartbeats 8000000 in
set_option maxRecDepth 100000 in
theorem qf30.calls (k : Nat) (A0 : Option Addr) (c0 : Nat) (l0 : List (S58)) (r : Bool) (w : World) (hr0 : Kd.C k58 w A0 l0.length l0) (hc0 : l0.length ≤ c0) (h : qf30.f k l0 = some r) :
  Calls Tryz.prog 30 #[.slice A0 l0.length c0] w fun e w' => e = .returned (.bool r) ∧ Below w.heap.size w w' := by
 have hu58 := Tryz.underlying58
 have HR0 := Aside0.mk hr0
 have HC0 := Aside0.mk hc0
 clear hr0 hc0
 have HB := Aside0.mk (Below.refl w.heap.size w)
 have H : (if (l0.length : Int) > 60 then (some true) else (qf30.l0 k l0 0)) = some r := h
 clear h
 by_cases c2 : (l0.length : Int) > 60
 ·rw [if_pos c2] at H
  have c2b0 : decide (60 < (l0.length : Int)) = true := decide_eq_true c2
  have c2b1 : decide (60 < l0.length) = true := decide_eq_true (by omega)
  clear c2
  obtain rfl := Option.some.inj H
  go_enter Tryz.func30, Tryz.ntmps30
  go_wp2
  go_ret
  exact ⟨eW, bB0⟩
 ·rw [if_neg c2] at H
  have c2b0 : decide (60 < (l0.length : Int)) = false := decide_eq_false c2
  have c2b1 : decide (60 < l0.length) = false := decide_eq_false (by omega)
  clear c2
  have H' := Aside0.mk H
  clear H
  go_enter Tryz.func30, Tryz.ntmps30
  go_wp2
  go_loopg [3] k (fun kq v3 w' => ∃ (x3_1 : Int), v3 = .int .i64 x3_1 ∧ Aside0 (qf30.l0 kq l0 x3_1 = some r) ∧ Aside0 (kq ≤ k) ∧ Aside0 (Below w.heap.size w w'))
  case atStart => exact ⟨(0), (by first | rfl | (simp; done) | (simp [*]; done)), H', ⟨Nat.le_refl _⟩, ⟨bB0⟩⟩
  case round =>
   clear H'
   (try clear c2); (try clear c2b0); (try clear c2b1); (try clear p2)
   obtain ⟨x3_1, rfl, HA, HK1, HB⟩ := hrel
   cases gk with
   | zero => exact absurd HA.out (by simp [qf30.l0])
   | succ k1 =>
    have H := HA.out
    clear HA
    simp only [qf30.l0] at H
    by_cases c3 : x3_1 < (l0.length : Int)
    ·rw [if_pos c3] at H
     have c3b0 : decide (x3_1 < (l0.length : Int)) = true := decide_eq_true c3
     clear c3
     by_cases c4 : 0 ≤ x3_1
     ·rw [if_pos c4] at H
      have c4b0 : decide (0 ≤ x3_1) = true := decide_eq_true c4
      clear c4
      replace H := Option.bind_eq_some_iff.mp H
      obtain ⟨t109, A50, H⟩ := H
      replace H : (if t109 = true then (some true) else (qf30.l0 k1 l0 (wrap64 (x3_1 + 1)))) = some r := H
      have A5 := Aside0.mk A50
      clear A50
      by_cases c6 : t109 = true
      ·subst c6
       have H1 : (some true) = some r := by rw [if_pos rfl] at H; exact H
       clear H
       have H := H1
       clear H1
       obtain rfl := Option.some.inj H
       have p108 : 0 ≤ (x3_1 : Int) := of_decide_eq_true (by first | (with_reducible assumption) | assumption)
       have q108 : x3_1 < (l0.length : Int) := of_decide_eq_true (by first | (with_reducible assumption) | assumption)
       obtain ⟨ad108, A108_1, c108_1, e108, hx108_0, hx108_1, hl108_1, hi108_1⟩ := at_T58 HR0.out x3_1 p108 q108
       cases e108
       have HZ108_1 := Aside0.mk hx108_1
       replace hx108_0 := mvc HB.out hx108_0
       replace hx108_1 := mvc HB.out hx108_1
       have HR108_1 := Aside0.mk hi108_1
       have HC108_1 := Aside0.mk hl108_1
       clear hi108_1 hl108_1
       replace p108 := eq_true p108
       replace q108 := eq_true q108
       go_wp2_with (first | ((with_reducible refine gate_callee (f := 62) rfl ?_); refine goesL_ (some 17) rfl rfl Tryz.func62 (by kernel_rfl) rfl #[.agg #[.string ((rd_T58 l0 x3_1).f0), .slice A108_1 ((rd_T58 l0 x3_1).f1).length c108_1]] rfl aG ?_; (with_reducible refine (qf62.calls k1 ((rd_T58 l0 x3_1).f0) _ _ ((rd_T58 l0 x3_1).f1) true _ ?side1 ?side2 A5.out).mono ?_); (case side1 => exact sC (Kd.C_below HR108_1.out HB.out)); (case side2 => exact HC108_1.out); rintro e w7 ⟨rfl, hb⟩; refine ⟨_, rfl, ?_⟩; have n0_ := Aside0.mk (below_step bB0 hb); clear HB; have HB := n0_; clear n0_; (try clear hb); (try clear hb2); (try clear hk); (try clear hi)))
       go_ret
       exact ⟨eW, bB0⟩
      ·replace c6 := Bool.eq_false_iff.mpr c6
       subst c6
       have H1 : (qf30.l0 k1 l0 (wrap64 (x3_1 + 1))) = some r := by rw [if_neg (show ¬ (false = true) by decide)] at H; exact H
       clear H
       have H := H1
       clear H1
       have H' := Aside0.mk H
       clear H
       have p108 : 0 ≤ (x3_1 : Int) := of_decide_eq_true (by first | (with_reducible assumption) | assumption)
       have q108 : x3_1 < (l0.length : Int) := of_decide_eq_true (by first | (with_reducible assumption) | assumption)
       obtain ⟨ad108, A108_1, c108_1, e108, hx108_0, hx108_1, hl108_1, hi108_1⟩ := at_T58 HR0.out x3_1 p108 q108
       cases e108
       have HZ108_1 := Aside0.mk hx108_1
       replace hx108_0 := mvc HB.out hx108_0
       replace hx108_1 := mvc HB.out hx108_1
       have HR108_1 := Aside0.mk hi108_1
       have HC108_1 := Aside0.mk hl108_1
       clear hi108_1 hl108_1
       replace p108 := eq_true p108
       replace q108 := eq_true q108
       go_wp2_with (first | ((with_reducible refine gate_callee (f := 62) rfl ?_); refine goesL_ (some 17) rfl rfl Tryz.func62 (by kernel_rfl) rfl #[.agg #[.string ((rd_T58 l0 x3_1).f0), .slice A108_1 ((rd_T58 l0 x3_1).f1).length c108_1]] rfl aG ?_; (with_reducible refine (qf62.calls k1 ((rd_T58 l0 x3_1).f0) _ _ ((rd_T58 l0 x3_1).f1) false _ ?side1 ?side2 A5.out).mono ?_); (case side1 => exact sC (Kd.C_below HR108_1.out HB.out)); (case side2 => exact HC108_1.out); rintro e w8 ⟨rfl, hb⟩; refine ⟨_, rfl, ?_⟩; have n0_ := Aside0.mk (below_step bB0 hb); clear HB; have HB := n0_; clear n0_; (try clear hb); (try clear hb2); (try clear hk); (try clear hi)))
       go_roundg k1
       case measure => have := HK1.out; omega
       case rel => exact ⟨(wrap64 (x3_1 + 1)), (by first | rfl | (simp; done) | (simp [*]; done)), H', ⟨by have := HK1.out; omega⟩, ⟨bB0⟩⟩
     ·rw [if_neg c4] at H
      exact absurd H (by simp)
    ·rw [if_neg c3] at H
     have c3b0 : decide (x3_1 < (l0.length : Int)) = false := decide_eq_false c3
     clear c3
     obtain rfl := Option.some.inj H
     go_wp2
     go_ret
     exact ⟨eW, bB0⟩
def qf11.f (k : Nat) (l0 : List (S58)) : Option (Bool) := if (l0.length : Int) > 14 then (if (l0.length : Int) ≤ 200 then (some true) else (if (l0.length : Int) > 203 then (some true) else (if (l0.length : Int) ≤ 14 then ((qf30.f k l0).bind fun t110 => (some t110)) else (some false)))) else (if (l0.length : Int) > 203 then (some true) else (if (l0.length : Int) ≤ 14 then ((qf30.f k l0).bind fun t111 => (some t111)) else (some false)))
set_option maxHeartbeats 8000000 in
set_option maxRecDepth 100000 in
theorem qf11.calls (k : Nat) (A0 : Option Addr) (c0 : Nat) (l0 : List (S58)) (r : Bool) (w : World) (hr0 : Kd.C k58 w A0 l0.length l0) (hc0 : l0.length ≤ c0) (h : qf11.f k l0 = some r) :
  Calls Tryz.prog 11 #[.slice A0 l0.length c0] w fun e w' => e = .returned (.bool r) ∧ Below w.heap.size w w' := by
 have HR0 := Aside0.mk hr0
 have HC0 := Aside0.mk hc0
 clear hr0 hc0
 have HB := Aside0.mk (Below.refl w.heap.size w)
 have H : (if (l0.length : Int) > 14 then (if (l0.length : Int) ≤ 200 then (some true) else (if (l0.length : Int) > 203 then (some true) else (if (l0.length : Int) ≤ 14 then ((qf30.f k l0).bind fun t110 => (some t110)) else (some false)))) else (if (l0.length : Int) > 203 then (some true) else (if (l0.length : Int) ≤ 14 then ((qf30.f k l0).bind fun t111 => (some t111)) else (some false)))) = some r := h
 clear h
 by_cases c2 : (l0.length : Int) > 14
 ·rw [if_pos c2] at H
  have c2b0 : decide (14 < (l0.length : Int)) = true := decide_eq_true c2
  have c2b1 : decide (14 < l0.length) = true := decide_eq_true (by omega)
  clear c2
  by_cases c3 : (l0.length : Int) ≤ 200
  ·rw [if_pos c3] at H
   have c3b0 : decide ((l0.length : Int) ≤ 200) = true := decide_eq_true c3
   have c3b1 : decide (l0.length ≤ 200) = true := decide_eq_true (by omega)
   clear c3
   obtain rfl := Option.some.inj H
   go_enter Tryz.func11, Tryz.ntmps11
   go_wp2
   go_ret
   exact ⟨eW, bB0⟩
  ·rw [if_neg c3] at H
   have c3b0 : decide ((l0.length : Int) ≤ 200) = false := decide_eq_false c3
   have c3b1 : decide (l0.length ≤ 200) = false := decide_eq_false (by omega)
   clear c3
   by_cases c4 : (l0.length : Int) > 203
   ·rw [if_pos c4] at H
    have c4b0 : decide (203 < (l0.length : Int)) = true := decide_eq_true c4
    have c4b1 : decide (203 < l0.length) = true := decide_eq_true (by omega)
    clear c4
    obtain rfl := Option.some.inj H
    go_enter Tryz.func11, Tryz.ntmps11
    go_wp2
    go_ret
    exact ⟨eW, bB0⟩
   ·rw [if_neg c4] at H
    have c4b0 : decide (203 < (l0.length : Int)) = false := decide_eq_false c4
    have c4b1 : decide (203 < l0.length) = false := decide_eq_false (by omega)
    clear c4
    by_cases c5 : (l0.length : Int) ≤ 14
    ·rw [if_pos c5] at H
     have c5b0 : decide ((l0.length : Int) ≤ 14) = true := decide_eq_true c5
     have c5b1 : decide (l0.length ≤ 14) = true := decide_eq_true (by omega)
     clear c5
     replace H := Option.bind_eq_some_iff.mp H
     obtain ⟨t110, A60, H⟩ := H
     replace H : (some t110) = some r := H
     have A6 := Aside0.mk A60
     clear A60
     obtain rfl := Option.some.inj H
     go_enter Tryz.func11, Tryz.ntmps11
     go_wp2_with (first | (go_at_call 30; (with_reducible refine (qf30.calls k _ _ l0 t110 _ ?side1 ?side2 A6.out).mono ?_); (case side1 => exact sC HR0.out); (case side2 => exact HC0.out); rintro e w7 ⟨rfl, hb⟩; have n0_ := Aside0.mk (below_step bB0 hb); clear HB; have HB := n0_; clear n0_; (try clear hb); (try clear hb2); (try clear hk); (try clear hi)))
     go_ret
     exact ⟨eW, bB0⟩
    ·rw [if_neg c5] at H
     have c5b0 : decide ((l0.length : Int) ≤ 14) = false := decide_eq_false c5
     have c5b1 : decide (l0.length ≤ 14) = false := decide_eq_false (by omega)
     clear c5
     obtain rfl := Option.some.inj H
     go_enter Tryz.func11, Tryz.ntmps11
     go_wp2
     go_ret
     exact ⟨eW, bB0⟩
 ·rw [if_neg c2] at H
  have c2b0 : decide (14 < (l0.length : Int)) = false := decide_eq_false c2
  have c2b1 : decide (14 < l0.length) = false := decide_eq_false (by omega)
  clear c2
  by_cases c8 : (l0.length : Int) > 203
  ·rw [if_pos c8] at H
   have c8b0 : decide (203 < (l0.length : Int)) = true := decide_eq_true c8
   have c8b1 : decide (203 < l0.length) = true := decide_eq_true (by omega)
   clear c8
   obtain rfl := Option.some.inj H
   go_enter Tryz.func11, Tryz.ntmps11
   go_wp2
   go_ret
   exact ⟨eW, bB0⟩
  ·rw [if_neg c8] at H
   have c8b0 : decide (203 < (l0.length : Int)) = false := decide_eq_false c8
   have c8b1 : decide (203 < l0.length) = false := decide_eq_false (by omega)
   clear c8
   by_cases c9 : (l0.length : Int) ≤ 14
   ·rw [if_pos c9] at H
    have c9b0 : decide ((l0.length : Int) ≤ 14) = true := decide_eq_true c9
    have c9b1 : decide (l0.length ≤ 14) = true := decide_eq_true (by omega)
    clear c9
    replace H := Option.bind_eq_some_iff.mp H
    obtain ⟨t111, A100, H⟩ := H
    replace H : (some t111) = some r := H
    have A10 := Aside0.mk A100
    clear A100
    obtain rfl := Option.some.inj H
    go_enter Tryz.func11, Tryz.ntmps11
    go_wp2_with (first | (go_at_call 30; (with_reducible refine (qf30.calls k _ _ l0 t111 _ ?side1 ?side2 A10.out).mono ?_); (case side1 => exact sC HR0.out); (case side2 => exact HC0.out); rintro e w11 ⟨rfl, hb⟩; have n0_ := Aside0.mk (below_step bB0 hb); clear HB; have HB := n0_; clear n0_; (try clear hb); (try clear hb2); (try clear hk); (try clear hi)))
    go_ret
    exact ⟨eW, bB0⟩
   ·rw [if_neg c9] at H
    have c9b0 : decide ((l0.length : Int) ≤ 14) = false := decide_eq_false c9
    have c9b1 : decide (l0.length ≤ 14) = false := decide_eq_false (by omega)
    clear c9
    obtain rfl := Option.some.inj H
    go_enter Tryz.func11, Tryz.ntmps11
    go_wp2
    go_ret
    exact ⟨eW, bB0⟩
def qf9.l0 : Nat → List (S62) → Int → Option (Bool)
 | 0, _, _ => none
 | k + 1, x0, x3 => if x3 < (x0.length : Int) then (if 0 ≤ x3 then ((qf29.f k ((rd_T62 x0 x3).f1.f0) ((rd_T62 x0 x3).f1.f1)).bind fun t105 => (if t105 = true then (some true) else (qf9.l0 k x0 (wrap64 (x3 + 1))))) else (none)) else (some false)
def qf9.f (k : Nat) (l0 : List (S62)) : Option (Bool) := if (l0.length : Int) > 60 then (some true) else (qf9.l0 k l0 0)
set_option maxHeartbeats 8000000 in
set_option maxRecDepth 100000 in
theorem qf9.calls (k : Nat) (A0 : Option Addr) (c0 : Nat) (l0 : List (S62)) (r : Bool) (w : World) (hr0 : Kd.C k62 w A0 l0.length l0) (hc0 : l0.length ≤ c0) (h : qf9.f k l0 = some r) :
  Calls Tryz.prog 9 #[.slice A0 l0.length c0] w fun e w' => e = .returned (.bool r) ∧ Below w.heap.size w w' := by
 have hu25 := Tryz.underlying25
 have HR0 := Aside0.mk hr0
 have HC0 := Aside0.mk hc0
 clear hr0 hc0
 have HB := Aside0.mk (Below.refl w.heap.size w)
 have H : (if (l0.length : Int) > 60 then (some true) else (qf9.l0 k l0 0)) = some r := h
 clear h
 by_cases c2 : (l0.length : Int) > 60
 ·rw [if_pos c2] at H
  have c2b0 : decide (60 < (l0.length : Int)) = true := decide_eq_true c2
  have c2b1 : decide (60 < l0.length) = true := decide_eq_true (by omega)
  clear c2
  obtain rfl := Option.some.inj H
  go_enter Tryz.func9, Tryz.ntmps9
  go_wp2
  go_ret
  exact ⟨eW, bB0⟩
 ·rw [if_neg c2] at H
  have c2b0 : decide (60 < (l0.length : Int)) = false := decide_eq_false c2
  have c2b1 : decide (60 < l0.length) = false := decide_eq_false (by omega)
  clear c2
  have H' := Aside0.mk H
  clear H
  go_enter Tryz.func9, Tryz.ntmps9
  go_wp2
  go_loopg [3] k (fun kq v3 w' => ∃ (x3_1 : Int), v3 = .int .i64 x3_1 ∧ Aside0 (qf9.l0 kq l0 x3_1 = some r) ∧ Aside0 (kq ≤ k) ∧ Aside0 (Below w.heap.size w w'))
  case atStart => exact ⟨(0), (by first | rfl | (simp; done) | (simp [*]; done)), H', ⟨Nat.le_refl _⟩, ⟨bB0⟩⟩
  case round =>
   clear H'
   (try clear c2); (try clear c2b0); (try clear c2b1); (try clear p2)
   obtain ⟨x3_1, rfl, HA, HK1, HB⟩ := hrel
   cases gk with
   | zero => exact absurd HA.out (by simp [qf9.l0])
   | succ k1 =>
    have H := HA.out
    clear HA
    simp only [qf9.l0] at H
    by_cases c3 : x3_1 < (l0.length : Int)
    ·rw [if_pos c3] at H
     have c3b0 : decide (x3_1 < (l0.length : Int)) = true := decide_eq_true c3
     clear c3
     by_cases c4 : 0 ≤ x3_1
     ·rw [if_pos c4] at H
      have c4b0 : decide (0 ≤ x3_1) = true := decide_eq_true c4
      clear c4
      replace H := Option.bind_eq_some_iff.mp H
      obtain ⟨t105, A50, H⟩ := H
      replace H : (if t105 = true then (some true) else (qf9.l0 k1 l0 (wrap64 (x3_1 + 1)))) = some r := H
      have A5 := Aside0.mk A50
      clear A50
      by_cases c6 : t105 = true
      ·subst c6
       have H1 : (some true) = some r := by rw [if_pos rfl] at H; exact H
       clear H
       have H := H1
       clear H1
       obtain rfl := Option.some.inj H
       have p104 : 0 ≤ (x3_1 : Int) := of_decide_eq_true (by first | (with_reducible assumption) | assumption)
       have q104 : x3_1 < (l0.length : Int) := of_decide_eq_true (by first | (with_reducible assumption) | assumption)
       obtain ⟨ad104, A104_2, c104_2, e104, hx104_0, hx104_1, hx104_2, hx104_3, hx104_4, hl104_2, hi104_2⟩ := at_T62 HR0.out x3_1 p104 q104
       cases e104
       have HZ104_2 := Aside0.mk hx104_2
       replace hx104_0 := mvc HB.out hx104_0
       replace hx104_1 := mvc HB.out hx104_1
       replace hx104_2 := mvc HB.out hx104_2
       replace hx104_3 := mvc HB.out hx104_3
       replace hx104_4 := mvc HB.out hx104_4
       have HR104_2 := Aside0.mk hi104_2
       have HC104_2 := Aside0.mk hl104_2
       clear hi104_2 hl104_2
       replace p104 := eq_true p104
       replace q104 := eq_true q104
       go_wp2_with (first | ((with_reducible refine gate_callee (f := 29) rfl ?_); refine goesL_ (some 18) rfl rfl Tryz.func29 (by kernel_rfl) rfl #[.agg #[.string ((rd_T62 l0 x3_1).f1.f0), .slice A104_2 ((rd_T62 l0 x3_1).f1.f1).length c104_2]] rfl aG ?_; (with_reducible refine (qf29.calls k1 ((rd_T62 l0 x3_1).f1.f0) _ _ ((rd_T62 l0 x3_1).f1.f1) true _ ?side1 ?side2 A5.out).mono ?_); (case side1 => exact sC (Kd.C_below HR104_2.out HB.out)); (case side2 => exact HC104_2.out); rintro e w7 ⟨rfl, hb⟩; refine ⟨_, rfl, ?_⟩; have n0_ := Aside0.mk (below_step bB0 hb); clear HB; have HB := n0_; clear n0_; (try clear hb); (try clear hb2); (try clear hk); (try clear hi)))
       go_ret
       exact ⟨eW, bB0⟩
      ·replace c6 := Bool.eq_false_iff.mpr c6
       subst c6
       have H1 : (qf9.l0 k1 l0 (wrap64 (x3_1 + 1))) = some r := by rw [if_neg (show ¬ (false = true) by decide)] at H; exact H
       clear H
       have H := H1
       clear H1
       have H' := Aside0.mk H
       clear H
       have p104 : 0 ≤ (x3_1 : Int) := of_decide_eq_true (by first | (with_reducible assumption) | assumption)
       have q104 : x3_1 < (l0.length : Int) := of_decide_eq_true (by first | (with_reducible assumption) | assumption)
       obtain ⟨ad104, A104_2, c104_2, e104, hx104_0, hx104_1, hx104_2, hx104_3, hx104_4, hl104_2, hi104_2⟩ := at_T62 HR0.out x3_1 p104 q104
       cases e104
       have HZ104_2 := Aside0.mk hx104_2
       replace hx104_0 := mvc HB.out hx104_0
       replace hx104_1 := mvc HB.out hx104_1
       replace hx104_2 := mvc HB.out hx104_2
       replace hx104_3 := mvc HB.out hx104_3
       replace hx104_4 := mvc HB.out hx104_4
       have HR104_2 := Aside0.mk hi104_2
       have HC104_2 := Aside0.mk hl104_2
       clear hi104_2 hl104_2
       replace p104 := eq_true p104
       replace q104 := eq_true q104
       go_wp2_with (first | ((with_reducible refine gate_callee (f := 29) rfl ?_); refine goesL_ (some 18) rfl rfl Tryz.func29 (by kernel_rfl) rfl #[.agg #[.string ((rd_T62 l0 x3_1).f1.f0), .slice A104_2 ((rd_T62 l0 x3_1).f1.f1).length c104_2]] rfl aG ?_; (with_reducible refine (qf29.calls k1 ((rd_T62 l0 x3_1).f1.f0) _ _ ((rd_T62 l0 x3_1).f1.f1) false _ ?side1 ?side2 A5.out).mono ?_); (case side1 => exact sC (Kd.C_below HR104_2.out HB.out)); (case side2 => exact HC104_2.out); rintro e w8 ⟨rfl, hb⟩; refine ⟨_, rfl, ?_⟩; have n0_ := Aside0.mk (below_step bB0 hb); clear HB; have HB := n0_; clear n0_; (try clear hb); (try clear hb2); (try clear hk); (try clear hi)))
       go_roundg k1
       case measure => have := HK1.out; omega
       case rel => exact ⟨(wrap64 (x3_1 + 1)), (by first | rfl | (simp; done) | (simp [*]; done)), H', ⟨by have := HK1.out; omega⟩, ⟨bB0⟩⟩
     ·rw [if_neg c4] at H
      exact absurd H (by simp)
    ·rw [if_neg c3] at H
     have c3b0 : decide (x3_1 < (l0.length : Int)) = false := decide_eq_false c3
     clear c3
     obtain rfl := Option.some.inj H
     go_wp2
     go_ret
     exact ⟨eW, bB0⟩
end Go.Proofs.YtghommaokdhjmaaGreat.P
/- The statements' guards: what they answer, and the bounds that they give. -/
namespace Go.Proofs.YtghommaokdhjmaaGreat.Sat
open Go.RowKit Go.Lib Go.Sort Go.Proofs.SymP Go.Proofs.YtghommaokdhjmaaGreatW.PrintWords P FactC IRow Frm SpecM SpecB PSat PSpec CmpF BothB SortStr Str
def smallN (x : S62) : Prop := x.f1.f0.size ≤ 200 ∧ x.f1.f1.length ≤ 20 ∧ ∀ t ∈ x.f1.f1, t.f0.size ≤ 200 ∧ t.f1.f2.size ≤ 200
theorem heavyN_loop (l : List S62) (hl : l.length ≤ 1000000) : ∀ (m i : Nat), i + m = l.length → ∃ b, Ev (fun k => qf9.l0 k l i) b ∧ (b = false → ∀ j (hj : j < l.length), i ≤ j → smallN l[j]) := by
 intro m
 induction m with
 | zero =>
  intro i h
  refine ⟨false, Ev.step (fun k => by rw [qf9.l0, if_neg (by omega)]) (Ev.now _), fun _ j hj hi => absurd hj (by omega)⟩
 | succ m ih =>
  intro i h
  have hi : i < l.length := by omega
  obtain ⟨b1, e1, k1⟩ := ev_heavyA l[i].f1.f0 l[i].f1.f1
  obtain ⟨b2, e2, k2⟩ := ih (i + 1) (by omega)
  have hw : wrap64 ((i : Int) + 1) = ((i + 1 : Nat) : Int) := by unfold wrap64; omega
  cases b1 with
  | true => exact ⟨true, Ev.step (fun k => by rw [qf9.l0, if_pos (by omega), if_pos (by omega), rd62_get hi]) (Ev.bind e1 (by simp only [if_true]; exact Ev.now _)), fun h => by cases h⟩
  | false =>
   refine ⟨b2, Ev.step (fun k => by rw [qf9.l0, if_pos (by omega), if_pos (by omega), rd62_get hi, hw]) (Ev.bind e1 (by simp only [Bool.false_eq_true, if_false]; exact e2)), fun hb j hj hij => ?_⟩
   by_cases e : j = i
   ·subst e; exact k1 rfl
   ·exact k2 hb j hj (by omega)
theorem ev_heavyN (l : List S62) : ∃ b, Ev (fun k => qf9.f k l) b ∧ (b = false → l.length ≤ 60 ∧ ∀ x ∈ l, smallN x) := by
 unfold qf9.f
 by_cases h : 60 < l.length
 ·exact ⟨true, by simp only [if_pos (show (l.length : Int) > 60 by omega)]; exact Ev.now _, fun h => by cases h⟩
 ·obtain ⟨b, e, k⟩ := heavyN_loop l (by omega) l.length 0 (by omega)
  refine ⟨b, by simp only [if_neg (show ¬ (l.length : Int) > 60 by omega)]; exact e, fun hb => ⟨by omega, fun x hx => ?_⟩⟩
  obtain ⟨j, hj, rfl⟩ := List.getElem_of_mem hx
  exact k hb j hj (by omega)
def smallF (y : S58) : Prop := y.f0.size ≤ 200 ∧ y.f1.length ≤ 20 ∧ ∀ v ∈ y.f1, v.f2.size ≤ 200
theorem many_loop (l : List S58) (hl : l.length ≤ 1000000) : ∀ (m i : Nat), i + m = l.length → ∃ b, Ev (fun k => qf30.l0 k l i) b ∧ (b = false → ∀ j (hj : j < l.length), i ≤ j → smallF l[j]) := by
 intro m
 induction m with
 | zero =>
  intro i h
  refine ⟨false, Ev.step (fun k => by rw [qf30.l0, if_neg (by omega)]) (Ev.now _), fun _ j hj hi => absurd hj (by omega)⟩
 | succ m ih =>
  intro i h
  have hi : i < l.length := by omega
  obtain ⟨b1, e1, k1⟩ := ev_heavyF l[i].f0 l[i].f1
  obtain ⟨b2, e2, k2⟩ := ih (i + 1) (by omega)
  have hw : wrap64 ((i : Int) + 1) = ((i + 1 : Nat) : Int) := by unfold wrap64; omega
  cases b1 with
  | true => exact ⟨true, Ev.step (fun k => by rw [qf30.l0, if_pos (by omega), if_pos (by omega), rd58_get hi]) (Ev.bind e1 (by simp only [if_true]; exact Ev.now _)), fun h => by cases h⟩
  | false =>
   refine ⟨b2, Ev.step (fun k => by rw [qf30.l0, if_pos (by omega), if_pos (by omega), rd58_get hi, hw]) (Ev.bind e1 (by simp only [Bool.false_eq_true, if_false]; exact e2)), fun hb j hj hij => ?_⟩
   by_cases e : j = i
   ·subst e; exact k1 rfl
   ·exact k2 hb j hj (by omega)
theorem ev_long (l : List S58) : ∃ b, Ev (fun k => qf11.f k l) b ∧ (b = false → l.length ≤ 14 → ∀ y ∈ l, smallF y) := by
 unfold qf11.f
 by_cases h : 14 < l.length
 ·simp only [if_pos (show (l.length : Int) > 14 by omega)]
  by_cases h2 : l.length ≤ 200
  ·exact ⟨true, by simp only [if_pos (show (l.length : Int) ≤ 200 by omega)]; exact Ev.now _, fun h => by cases h⟩
  ·simp only [if_neg (show ¬ (l.length : Int) ≤ 200 by omega)]
   by_cases h3 : 203 < l.length
   ·exact ⟨true, by simp only [if_pos (show (l.length : Int) > 203 by omega)]; exact Ev.now _, fun h => by cases h⟩
   ·exact ⟨false, by simp only [if_neg (show ¬ (l.length : Int) > 203 by omega), if_neg (show ¬ (l.length : Int) ≤ 14 by omega)]; exact Ev.now _, fun _ h => by omega⟩
 ·obtain ⟨b, e, k⟩ := many_loop l (by omega) l.length 0 (by omega)
  refine ⟨b, ?_, fun hb _ y hy => ?_⟩
  ·simp only [if_neg (show ¬ (l.length : Int) > 14 by omega), if_neg (show ¬ (l.length : Int) > 203 by omega), if_pos (show (l.length : Int) ≤ 14 by omega)]
   refine Ev.bind ?_ (Ev.now _)
   unfold qf30.f
   simp only [if_neg (show ¬ (l.length : Int) > 60 by omega)]
   exact e
  ·obtain ⟨j, hj, rfl⟩ := List.getElem_of_mem hy
   exact k hb j hj (by omega)
theorem heavyB_fit {b : List S66} (h : heavyP b = false) : b.length ≤ 110 ∧ fitB b = true := by
 unfold heavyP at h
 rw [Bool.or_eq_false_iff] at h
 refine ⟨by have := h.1; simpa using this, ?_⟩
 unfold fitB
 rw [List.all_eq_true]
 intro x hx
 have := List.any_eq_false.1 h.2 x hx
 unfold heavyX at this
 simp at this ⊢
 omega
theorem fit_small {l : List S62} (h : l.length ≤ 60 ∧ ∀ x ∈ l, smallN x) : fitNs l := ⟨fun x hx => by
 obtain ⟨h1, h2, h3⟩ := h.2 x hx
 refine ⟨⟨by omega, fitT_mem.2 fun t ht => ?_⟩, by omega⟩
 have := h3 t ht
 omega, by omega⟩
theorem fitF_small {y : S58} (h : smallF y) : fitF y := by
 obtain ⟨h1, h2, h3⟩ := h
 exact ⟨by omega, fitV_mem.2 fun v hv => by have := h3 v hv; omega, by omega⟩
end Go.Proofs.YtghommaokdhjmaaGreat.Sat
namespace Go.Proofs.YtghommaokdhjmaaGreat.P
open Go.RowKit Go.Proofs.YtghommaokdhjmaaGreatW.PrintWords Go.Proofs.YtghommaokdhjmaaGreatW.PrintLast Gate
def qf10.f (k : Nat) (a0_0 : ByteArray) (a0_1 : ByteArray) (l0_2 : List (S92)) (l0_3 : List (S62)) : Option (Bool) := if (a0_0.size : Int) > 200 then (some true) else ((qf29.f k a0_1 l0_2).bind fun t696 => (if t696 = true then (some true) else ((qf9.f k l0_3).bind fun t697 => (some t697))))
set_option maxHeartbeats 8000000 in
set_option maxRecDepth 100000 in
theorem qf10.calls (k : Nat) (a0_0 : ByteArray) (a0_1 : ByteArray) (A0_2 : Option Addr) (c0_2 : Nat) (l0_2 : List (S92)) (A0_3 : Option Addr) (c0_3 : Nat) (l0_3 : List (S62)) (r : Bool) (w : World) (hr0_2 : Kd.C k92 w A0_2 l0_2.length l0_2) (hc0_2 : l0_2.length ≤ c0_2) (hr0_3 : Kd.C k62 w A0_3 l0_3.length l0_3) (hc0_3 : l0_3.length ≤ c0_3) (h : qf10.f k a0_0 a0_1 l0_2 l0_3 = some r) :
  Calls Tryz.prog 10 #[.agg #[.string a0_0, .string a0_1, .slice A0_2 l0_2.length c0_2, .slice A0_3 l0_3.length c0_3]] w fun e w' => e = .returned (.bool r) ∧ Below w.heap.size w w' := by
 have hu27 := Tryz.underlying27
 have hu25 := Tryz.underlying25
 have HR0_2 := Aside0.mk hr0_2
 have HC0_2 := Aside0.mk hc0_2
 clear hr0_2 hc0_2
 have HR0_3 := Aside0.mk hr0_3
 have HC0_3 := Aside0.mk hc0_3
 clear hr0_3 hc0_3
 have HB := Aside0.mk (Below.refl w.heap.size w)
 have H : (if (a0_0.size : Int) > 200 then (some true) else ((qf29.f k a0_1 l0_2).bind fun t696 => (if t696 = true then (some true) else ((qf9.f k l0_3).bind fun t697 => (some t697))))) = some r := h
 clear h
 by_cases c2 : (a0_0.size : Int) > 200
 ·rw [if_pos c2] at H
  have c2b0 : decide (200 < (a0_0.size : Int)) = true := decide_eq_true c2
  have c2b1 : decide (200 < a0_0.size) = true := decide_eq_true (by omega)
  clear c2
  obtain rfl := Option.some.inj H
  go_enter Tryz.func10, Tryz.ntmps10
  go_wp2_with (first | ((with_reducible refine gate_dst (N := 1) rfl ?_); refine bE (N := 1) (cs := #[.string a0_0, .string a0_1, .slice A0_2 l0_2.length c0_2, .slice A0_3 l0_3.length c0_3]) (t := 27) ?_; intro gb695 hg w3 hbox hb; have n0_ := Aside0.mk (below_step bB0 hb); have n1_ := Aside0.mk (hbox); have n2_ := Aside0.mk ((by rw [hg]; exact (below_size bB0) : w.heap.size ≤ gb695)); have n3_ := Aside0.mk ((by rw [hg]; exact (below_size bB0) : w.heap.size ≤ gb695)); clear HB; have HB := n0_; have BK695 := n1_; have GW695 := n2_; have GE695 := n3_; clear n0_ n1_ n2_ n3_; clear hb hbox hg; have hcz4_0 : w3.cell? ⟨gb695, 0, none⟩ = some (.string a0_0) := (blk_cell BK695.out 0).trans rfl; have hcz4_1 : w3.cell? ⟨gb695, 1, none⟩ = some (.string a0_1) := (blk_cell BK695.out 1).trans rfl; have hcz4_2 : w3.cell? ⟨gb695, 2, none⟩ = some (.slice A0_2 l0_2.length c0_2) := (blk_cell BK695.out 2).trans rfl; have hcz4_3 : w3.cell? ⟨gb695, 3, none⟩ = some (.slice A0_3 l0_3.length c0_3) := (blk_cell BK695.out 3).trans rfl; have hfz4_0 := blk_frozen BK695.out 0; have hfz4_1 := blk_frozen BK695.out 1; have hfz4_2 := blk_frozen BK695.out 2; have hfz4_3 := blk_frozen BK695.out 3))
  go_ret
  exact ⟨eW, (bB1 GE695.out)⟩
 ·rw [if_neg c2] at H
  have c2b0 : decide (200 < (a0_0.size : Int)) = false := decide_eq_false c2
  have c2b1 : decide (200 < a0_0.size) = false := decide_eq_false (by omega)
  clear c2
  replace H := Option.bind_eq_some_iff.mp H
  obtain ⟨t696, A50, H⟩ := H
  replace H : (if t696 = true then (some true) else ((qf9.f k l0_3).bind fun t697 => (some t697))) = some r := H
  have A5 := Aside0.mk A50
  clear A50
  by_cases c6 : t696 = true
  ·subst c6
   have H1 : (some true) = some r := by rw [if_pos rfl] at H; exact H
   clear H
   have H := H1
   clear H1
   obtain rfl := Option.some.inj H
   go_enter Tryz.func10, Tryz.ntmps10
   go_wp2_with (first | ((with_reducible refine gate_dst (N := 1) rfl ?_); refine bE (N := 1) (cs := #[.string a0_0, .string a0_1, .slice A0_2 l0_2.length c0_2, .slice A0_3 l0_3.length c0_3]) (t := 27) ?_; intro gb695 hg w7 hbox hb; have n0_ := Aside0.mk (below_step bB0 hb); have n1_ := Aside0.mk (hbox); have n2_ := Aside0.mk ((by rw [hg]; exact (below_size bB0) : w.heap.size ≤ gb695)); have n3_ := Aside0.mk ((by rw [hg]; exact (below_size bB0) : w.heap.size ≤ gb695)); clear HB; have HB := n0_; have BK695 := n1_; have GW695 := n2_; have GE695 := n3_; clear n0_ n1_ n2_ n3_; clear hb hbox hg; have hcz8_0 : w7.cell? ⟨gb695, 0, none⟩ = some (.string a0_0) := (blk_cell BK695.out 0).trans rfl; have hcz8_1 : w7.cell? ⟨gb695, 1, none⟩ = some (.string a0_1) := (blk_cell BK695.out 1).trans rfl; have hcz8_2 : w7.cell? ⟨gb695, 2, none⟩ = some (.slice A0_2 l0_2.length c0_2) := (blk_cell BK695.out 2).trans rfl; have hcz8_3 : w7.cell? ⟨gb695, 3, none⟩ = some (.slice A0_3 l0_3.length c0_3) := (blk_cell BK695.out 3).trans rfl; have hfz8_0 := blk_frozen BK695.out 0; have hfz8_1 := blk_frozen BK695.out 1; have hfz8_2 := blk_frozen BK695.out 2; have hfz8_3 := blk_frozen BK695.out 3) | (go_at_call 29; (with_reducible refine (qf29.calls k a0_1 _ _ l0_2 true _ ?side1 ?side2 A5.out).mono ?_); (case side1 => exact sC (Kd.C_below HR0_2.out HB.out)); (case side2 => exact HC0_2.out); rintro e w9 ⟨rfl, hb⟩; have n0_ := Aside0.mk (blk_below (g := gb695) (o := .cells #[.string a0_0, .string a0_1, .slice A0_2 l0_2.length c0_2, .slice A0_3 l0_3.length c0_3] 27 (0, 0)) (by refine bk ?_; exact BK695.out) hb); have n1_ := Aside0.mk (below_step (bB1 GE695.out) hb); clear BK695; clear HB; have BK695 := n0_; have HB := n1_; clear n0_ n1_; (try clear hb); (try clear hb2); (try clear hk); (try clear hi)))
   go_ret
   exact ⟨eW, (bB1 GE695.out)⟩
  ·replace c6 := Bool.eq_false_iff.mpr c6
   subst c6
   have H1 : ((qf9.f k l0_3).bind fun t697 => (some t697)) = some r := by rw [if_neg (show ¬ (false = true) by decide)] at H; exact H
   clear H
   have H := H1
   clear H1
   replace H := Option.bind_eq_some_iff.mp H
   obtain ⟨t697, A100, H⟩ := H
   replace H : (some t697) = some r := H
   have A10 := Aside0.mk A100
   clear A100
   obtain rfl := Option.some.inj H
   go_enter Tryz.func10, Tryz.ntmps10
   go_wp2_with (first | ((with_reducible refine gate_dst (N := 1) rfl ?_); refine bE (N := 1) (cs := #[.string a0_0, .string a0_1, .slice A0_2 l0_2.length c0_2, .slice A0_3 l0_3.length c0_3]) (t := 27) ?_; intro gb695 hg w11 hbox hb; have n0_ := Aside0.mk (below_step bB0 hb); have n1_ := Aside0.mk (hbox); have n2_ := Aside0.mk ((by rw [hg]; exact (below_size bB0) : w.heap.size ≤ gb695)); have n3_ := Aside0.mk ((by rw [hg]; exact (below_size bB0) : w.heap.size ≤ gb695)); clear HB; have HB := n0_; have BK695 := n1_; have GW695 := n2_; have GE695 := n3_; clear n0_ n1_ n2_ n3_; clear hb hbox hg; have hcz12_0 : w11.cell? ⟨gb695, 0, none⟩ = some (.string a0_0) := (blk_cell BK695.out 0).trans rfl; have hcz12_1 : w11.cell? ⟨gb695, 1, none⟩ = some (.string a0_1) := (blk_cell BK695.out 1).trans rfl; have hcz12_2 : w11.cell? ⟨gb695, 2, none⟩ = some (.slice A0_2 l0_2.length c0_2) := (blk_cell BK695.out 2).trans rfl; have hcz12_3 : w11.cell? ⟨gb695, 3, none⟩ = some (.slice A0_3 l0_3.length c0_3) := (blk_cell BK695.out 3).trans rfl; have hfz12_0 := blk_frozen BK695.out 0; have hfz12_1 := blk_frozen BK695.out 1; have hfz12_2 := blk_frozen BK695.out 2; have hfz12_3 := blk_frozen BK695.out 3) | (go_at_call 29; (with_reducible refine (qf29.calls k a0_1 _ _ l0_2 false _ ?side1 ?side2 A5.out).mono ?_); (case side1 => exact sC (Kd.C_below HR0_2.out HB.out)); (case side2 => exact HC0_2.out); rintro e w13 ⟨rfl, hb⟩; have n0_ := Aside0.mk (blk_below (g := gb695) (o := .cells #[.string a0_0, .string a0_1, .slice A0_2 l0_2.length c0_2, .slice A0_3 l0_3.length c0_3] 27 (0, 0)) (by refine bk ?_; exact BK695.out) hb); have n1_ := Aside0.mk (below_step (bB1 GE695.out) hb); clear BK695; clear HB; have BK695 := n0_; have HB := n1_; clear n0_ n1_; (try clear hb); (try clear hb2); (try clear hk); (try clear hi); have hcz14_0 : w13.cell? ⟨gb695, 0, none⟩ = some (.string a0_0) := (blk_cell BK695.out 0).trans rfl; have hcz14_1 : w13.cell? ⟨gb695, 1, none⟩ = some (.string a0_1) := (blk_cell BK695.out 1).trans rfl; have hcz14_2 : w13.cell? ⟨gb695, 2, none⟩ = some (.slice A0_2 l0_2.length c0_2) := (blk_cell BK695.out 2).trans rfl; have hcz14_3 : w13.cell? ⟨gb695, 3, none⟩ = some (.slice A0_3 l0_3.length c0_3) := (blk_cell BK695.out 3).trans rfl; have hfz14_0 := blk_frozen BK695.out 0; have hfz14_1 := blk_frozen BK695.out 1; have hfz14_2 := blk_frozen BK695.out 2; have hfz14_3 := blk_frozen BK695.out 3) | (go_at_call 9; (with_reducible refine (qf9.calls k _ _ l0_3 t697 _ ?side1 ?side2 A10.out).mono ?_); (case side1 => exact sC (Kd.C_below HR0_3.out HB.out)); (case side2 => exact HC0_3.out); rintro e w15 ⟨rfl, hb⟩; have n0_ := Aside0.mk (blk_below (g := gb695) (o := .cells #[.string a0_0, .string a0_1, .slice A0_2 l0_2.length c0_2, .slice A0_3 l0_3.length c0_3] 27 (0, 0)) (by refine bk ?_; exact BK695.out) hb); have n1_ := Aside0.mk (below_step (bB1 GE695.out) hb); clear BK695; clear HB; have BK695 := n0_; have HB := n1_; clear n0_ n1_; (try clear hb); (try clear hb2); (try clear hk); (try clear hi)))
   go_ret
   exact ⟨eW, (bB1 GE695.out)⟩
end Go.Proofs.YtghommaokdhjmaaGreat.P
/- A pattern's violation, plainly: what stands behind a place tells nothing of it; where a trigger matches, the formula has an answer with its values. -/
namespace Go.Proofs.YtghommaokdhjmaaGreat.Sat
open Go.RowKit Go.Lib Go.Sort Go.Proofs.SymP Go.Proofs.YtghommaokdhjmaaGreatW.PrintWords P FactC IRow Frm SpecM SpecB PSat PSpec CmpF BothB SortStr Str
theorem vars_mem : ∀ (ts : List S92) (acc : List ByteArray) (x : ByteArray), x ∈ varsL acc ts ↔ x ∈ acc ∨ ∃ t ∈ ts, ¬ con t ∧ x = t.f0
 | [], acc, x => by rw [varsL]; simp
 | t :: ts, acc, x => by
  rw [varsL]
  by_cases hc : con t
  ·rw [if_pos hc, vars_mem ts acc x]
   constructor
   ·rintro (h | ⟨u, hu, h⟩)
    ·exact .inl h
    ·exact .inr ⟨u, List.mem_cons_of_mem _ hu, h⟩
   ·rintro (h | ⟨u, hu, h⟩)
    ·exact .inl h
    ·rcases List.mem_cons.1 hu with rfl | hu
     ·exact absurd hc h.1
     ·exact .inr ⟨u, hu, h⟩
  ·rw [if_neg hc]
   by_cases ha : (acc.any fun x => decide (t.f0 = x)) = true
   ·rw [if_pos ha, vars_mem ts acc x]
    obtain ⟨y, hy, he⟩ := List.any_eq_true.1 ha
    have he := of_decide_eq_true he
    constructor
    ·rintro (h | ⟨u, hu, h⟩)
     ·exact .inl h
     ·exact .inr ⟨u, List.mem_cons_of_mem _ hu, h⟩
    ·rintro (h | ⟨u, hu, h⟩)
     ·exact .inl h
     ·rcases List.mem_cons.1 hu with rfl | hu
      ·exact .inl (by rw [h.2, he]; exact hy)
      ·exact .inr ⟨u, hu, h⟩
   ·rw [if_neg ha, vars_mem ts _ x, List.mem_append, List.mem_singleton, or_assoc]
    constructor
    ·rintro (h | h | ⟨u, hu, h⟩)
     ·exact .inl h
     ·exact .inr ⟨t, List.mem_cons_self, hc, h⟩
     ·exact .inr ⟨u, List.mem_cons_of_mem _ hu, h⟩
    ·rintro (h | ⟨u, hu, h⟩)
     ·exact .inl h
     ·rcases List.mem_cons.1 hu with rfl | hu
      ·exact .inr (.inl h.2)
      ·exact .inr (.inr ⟨u, hu, h⟩)
theorem vars_at {ts : List S92} {vs : List S64} (hn : ts.length = vs.length) {t : S92} (ht : t ∈ ts) : ∃ v, (t, v) ∈ ts.zip vs := by
 obtain ⟨i, hi, rfl⟩ := List.mem_iff_getElem.1 ht
 exact ⟨vs[i], List.mem_iff_getElem.2 ⟨i, by simp; omega, by simp⟩⟩
theorem fit_names {ts : List S92} {vs : List S64} {m : List S66} (hn : ts.length = vs.length) (h : Fit [] ts vs m) (x : ByteArray) : x ∈ m.map (fun y => y.f0) ↔ x ∈ varsL [] ts := by
 rw [vars_mem, List.mem_map]
 constructor
 ·rintro ⟨y, hy, rfl⟩
  rcases (h.2.2.2 y).1 hy with hy | ⟨p, hp, hc, rfl⟩
  ·simp at hy
  ·exact .inr ⟨p.1, (List.of_mem_zip hp).1, hc, rfl⟩
 ·rintro (hx | ⟨t, ht, hc, rfl⟩)
  ·simp at hx
  ·obtain ⟨v, hv⟩ := vars_at hn ht
   exact ⟨bnd t v, (h.2.2.2 _).2 (.inr ⟨(t, v), hv, hc, rfl⟩), rfl⟩
theorem wrong_holds {l : List S62} {t : List S58} {pn an a : ByteArray} {ts : List S92} {vs : List S64} {bs : List S66} {p : Nat} (hr : rightB l pn an ts = true) (hs : subB l ts = true) (ht : trP t = 0) (hp : p < t.length) (hone : oneP an ts a vs [] = (bs, true)) : holdsE l t (p : Int) bs = 0 := by
 have hk : chkN l = 0 := by
  unfold rightB at hr
  simp at hr
  exact hr.2.2
 rcases oneP_cases an ts a vs [] with ⟨m, e, _, _, _, hl, hf⟩ | ⟨e, _⟩
 ·rw [hone] at e
  obtain rfl : bs = m := congrArg Prod.fst e
  have hu : unbP l bs = false := by
   unfold unbP
   rw [List.any_eq_false]
   intro s hs2
   unfold subB at hs
   have := List.all_eq_true.1 hs s hs2
   rw [List.any_eq_true] at this
   obtain ⟨y, hy, he⟩ := this
   obtain rfl : s = y := of_decide_eq_true he
   obtain ⟨x, hx, rfl⟩ := List.mem_map.1 ((fit_names hl hf s).2 hy)
   rw [getP_of hf.2.1 hx]
   simp
  unfold holdsE
  rw [if_neg (by simp [hk]), if_neg (by simp [ht]), if_neg (by simp [hf.2.1]), if_neg (by omega), if_neg (by simp [hu])]
 ·rw [hone] at e
  simp at e
theorem one_fitB {an a : ByteArray} {ts : List S92} {vs : List S64} {bs : List S66} {m : Bool} (ft : fitT ts = true) (fv : fitV vs = true) (h : oneP an ts a vs [] = (bs, m)) : fitB bs = true := by
 rcases oneP_cases an ts a vs [] with ⟨b, e, _, _, _, hl, hf⟩ | ⟨e, _⟩
 ·rw [h] at e
  obtain rfl : bs = b := congrArg Prod.fst e
  exact fit_fit hf rfl ft fv
 ·rw [h] at e
  obtain rfl : bs = [] := congrArg Prod.fst e
  rfl
theorem one_len {an a : ByteArray} {ts : List S92} {vs : List S64} {bs : List S66} {m : Bool} (h : oneP an ts a vs [] = (bs, m)) : bs.length ≤ 100 := by
 rcases oneP_cases an ts a vs [] with ⟨b, e, _, _, _, _, hf⟩ | ⟨e, _⟩
 ·rw [h] at e
  obtain rfl : bs = b := congrArg Prod.fst e
  exact ((right_iff bs).1 hf.2.1).1
 ·rw [h] at e
  obtain rfl : bs = [] := congrArg Prod.fst e
  exact Nat.zero_le _
theorem ev_heavyP (pn an : ByteArray) (ts : List S92) (l : List S62) : ∃ b, Ev (fun k => qf10.f k pn an ts l) b ∧ (b = false → pn.size ≤ 200 ∧ (an.size ≤ 200 ∧ ts.length ≤ 20 ∧ ∀ t ∈ ts, t.f0.size ≤ 200 ∧ t.f1.f2.size ≤ 200) ∧ l.length ≤ 60 ∧ ∀ x ∈ l, smallN x) := by
 unfold qf10.f
 by_cases h1 : (pn.size : Int) > 200
 ·exact ⟨true, by simp only [if_pos h1]; exact Ev.now _, fun h => absurd h (by decide)⟩
 ·simp only [if_neg h1]
  obtain ⟨b1, e1, k1⟩ := ev_heavyA an ts
  obtain ⟨b2, e2, k2⟩ := ev_heavyN l
  cases b1 with
  | true => exact ⟨true, Ev.bind e1 (by simp only [if_true]; exact Ev.now _), fun h => absurd h (by decide)⟩
  | false => exact ⟨b2, Ev.bind e1 (by simp only [Bool.false_eq_true, if_false]; exact Ev.bind e2 (Ev.now _)), fun h => ⟨by omega, k1 rfl, k2 h⟩⟩
end Go.Proofs.YtghommaokdhjmaaGreat.Sat
/- keep.Fact, keep.Facts: their walks by hand. -/
namespace Go.Proofs.YtghommaokdhjmaaGreat.Sat
open Go.RowKit Go.Lib Go.Sort Go.Proofs.SymP Go.Proofs.YtghommaokdhjmaaGreatW.PrintWords P FactC IRow Frm SpecM SpecB PSat PSpec CmpF BothB SortStr Str
theorem neV_no (x : S64) : neV x x = false := by unfold neV; simp
theorem neV_yes {x y : S64} (h : x ≠ y) : neV x y = true := by
 unfold neV
 rw [Bool.not_eq_true', ← Bool.not_eq_true]
 intro e
 simp only [Bool.and_eq_true, beq_iff_eq] at e
 obtain ⟨e0, e1, e2⟩ := e
 cases x; cases y
 simp only at e0 e1 e2
 rw [FactC.tl_iff] at e2
 subst e0 e1 e2
 exact h rfl
set_option maxHeartbeats 4000000 in
set_option maxRecDepth 1000000 in
theorem cKFact {W : World} {A A1 : Option Addr} {c c1 : Nat} (a b : ByteArray) (vs ws : List S64) (hl : vs.length < 4398046511104) (h1 : vs.length ≤ c) (h2 : Kd.C k64 W A vs.length vs) (h3 : ws.length ≤ c1) (h4 : Kd.C k64 W A1 ws.length ws) : Calls Tryz.prog 39 #[.agg #[.string a, .slice A vs.length c], .agg #[.string b, .slice A1 ws.length c1]] W fun e w' => e = .returned (.bool (decide (a = b ∧ vs = ws))) ∧ Go.RowKit.Below W.heap.size W w' := by
 have hu58 := Tryz.underlying58
 have hu64 := Tryz.underlying64
 have T0 := Aside0.mk (Two.start W (.string a) (.slice A vs.length c) (.string b) (.slice A1 ws.length c1) 58 58)
 have HR := Aside0.mk (And.intro h2 h4)
 clear h2 h4
 by_cases e1 : a = b
 case neg =>
  rw [decide_eq_false (fun h => e1 h.1)]
  have d1 : (a.toList != b.toList) = true := bne_iff_ne.2 (fun h => e1 ((FactC.tl_iff _ _).1 h))
  have d0 : (a.toList == b.toList) = false := beq_eq_false_iff_ne.2 (fun h => e1 ((FactC.tl_iff _ _).1 h))
  clear e1
  go_enter Tryz.func39, Tryz.ntmps39
  go_wp2
  go_ret
  exact ⟨rfl, T0.out.below⟩
 have d1 : (a.toList != b.toList) = false := by rw [e1]; exact bne_self_eq_false _
 have d0 : (a.toList == b.toList) = true := by rw [e1]; exact beq_self_eq_true _
 have HAB := Aside0.mk e1
 clear e1
 by_cases e2 : vs.length = ws.length
 case neg =>
  rw [decide_eq_false (fun h => e2 (by rw [h.2]))]
  have d2 : ((vs.length : Int) != (ws.length : Int)) = true := bne_iff_ne.2 (by omega)
  clear e2
  go_enter Tryz.func39, Tryz.ntmps39
  go_wp2
  go_ret
  exact ⟨rfl, T0.out.below⟩
 have d2 : ((vs.length : Int) != (ws.length : Int)) = false := by rw [e2]; exact bne_self_eq_false _
 have hres : decide (a = b ∧ vs = ws) = decide (vs = ws) := decide_eq_decide.2 ⟨fun h => h.2, fun h => ⟨HAB.out, h⟩⟩
 rw [hres]
 obtain ⟨res, hr⟩ : ∃ res, decide (vs = ws) = res := ⟨_, rfl⟩
 rw [hr]
 have HRES := Aside0.mk hr
 have HE := Aside0.mk e2
 clear hr
 clear hres e2
 go_enter Tryz.func39, Tryz.ntmps39
 go_wp2
 go_loopg [5] vs.length (fun gg s5 wr => ∃ (j : Nat), s5 = .int .i64 j ∧ j ≤ vs.length ∧ vs.length - j ≤ gg ∧ Aside0 (vs.take j = ws.take j) ∧ Aside0 (Two W (.string a) (.slice A vs.length c) (.string b) (.slice A1 ws.length c1) wr))
 case atStart => exact ⟨0, rfl, Nat.zero_le _, Nat.le_refl _, ⟨rfl⟩, T0⟩
 case round =>
  clear T0 d1 d2 d0
  obtain ⟨j, rfl, hj, hg, HA, T⟩ := hrel
  obtain ⟨hB, hz, k0, k1, k2, k3⟩ := T.out
  by_cases hlt : j < vs.length
  ·have hltz : (j : Int) < (vs.length : Int) := by omega
   have hltw : (j : Int) < (ws.length : Int) := by have := HE.out; omega
   have hj0 : (0 : Int) ≤ (j : Int) := by omega
   have hjw : j < ws.length := by have := HE.out; omega
   obtain ⟨ad, eA, x0, x1, x2⟩ := at_T64 (Kd.C_below HR.out.1 hB) (j : Int) hj0 hltz
   obtain ⟨ad2, eB, y0, y1, y2⟩ := at_T64 (Kd.C_below HR.out.2 hB) (j : Int) hj0 hltw
   rw [rdV_get hlt] at x0 x1 x2
   rw [rdV_get hjw] at y0 y1 y2
   simp only [Int.toNat_natCast] at x0 x1 x2 y0 y1 y2
   have hne := ne24 vs[j] ws[j]
   have kw : IntKind.i64.wrap ((j : Int) + 1) = ((j + 1 : Nat) : Int) := by unfold IntKind.wrap; simp [IntKind.bits, IntKind.signed]; omega
   have HD := Aside0.mk (And.intro (List.take_succ_eq_append_getElem hlt) (List.take_succ_eq_append_getElem hjw))
   have hmv : vs[j] = vs[j]'hlt := rfl
   have HW : Aside0 (vs[j] ≠ ws[j] → vs ≠ ws) := ⟨fun h e => h (by simp only [e])⟩
   generalize vs[j] = x at *
   generalize ws[j] = y at *
   subst eA eB
   clear hB hz
   by_cases hv : x = y
   ·subst hv
    rw [neV_no] at hne
    have HJ := Aside0.mk hlt
    clear hlt HW
    go_wp2
    go_quiet (fail)
    go_wp2
    go_roundg (vs.length - (j + 1))
    case measure => have := HJ.out; omega
    case rel => exact ⟨j + 1, by go_num, HJ.out, Nat.le_refl _, ⟨by rw [HD.out.1, HD.out.2, HA.out]⟩, Aside0.mk (T.out.step (pw_below_drewN (Go.RowKit.Below.refl _ _) _))⟩
   ·rw [neV_yes hv] at hne
    obtain rfl : res = false := by rw [← HRES.out]; exact decide_eq_false (HW.out hv)
    clear hlt HW hv
    go_wp2
    go_quiet (fail)
    go_wp2
    go_ret
    exact ⟨rfl, pw_below_drewN T.out.below _⟩
  ·have hltz : ¬ (j : Int) < (vs.length : Int) := by omega
   have hva : vs = ws := by
    have := HA.out
    rwa [List.take_of_length_le (by omega), List.take_of_length_le (by have := HE.out; omega)] at this
   obtain rfl : res = true := by rw [← HRES.out]; exact decide_eq_true hva
   clear hva hlt
   go_wp2
   go_ret
   exact ⟨rfl, T.out.below⟩
set_option maxHeartbeats 4000000 in
set_option maxRecDepth 1000000 in
theorem cKFacts {W : World} {T T2 : Option Addr} {tn tc tc2 : Nat} {t : List S58} (h1 : TRow W T tn tc t) (h2 : TRow W T2 tn tc2 t) (hft : ∀ y ∈ t, y.f1.length < 4398046511104) (hl : tn ≤ 1000000) : Calls Tryz.prog 16 #[.slice T tn tc, .slice T2 tn tc2] W fun e w' => e = .returned (.bool true) ∧ Go.RowKit.Below W.heap.size W w' := by
 have hu58 := Tryz.underlying58
 have hc1 := h1.cap
 have hc2 := h2.cap
 have HR := Aside0.mk (And.intro h1 h2)
 have HF := Aside0.mk hft
 clear h1 h2 hft
 go_enter Tryz.func16, Tryz.ntmps16
 go_wp2
 go_loopg [5] tn (fun gg s5 wr => ∃ (j : Nat), s5 = .int .i64 j ∧ j ≤ tn ∧ tn - j ≤ gg ∧ Aside0 (Go.RowKit.Below W.heap.size W wr))
 case atStart => exact ⟨0, rfl, Nat.zero_le _, Nat.le_refl _, ⟨Go.RowKit.Below.refl _ _⟩⟩
 case round =>
  obtain ⟨j, rfl, hj, hg, HB⟩ := hrel
  by_cases hlt : j < tn
  ·have hltz : (j : Int) < (tn : Int) := by omega
   have hj0 : (0 : Int) ≤ (j : Int) := by omega
   have hjt : j < t.length := by have := HR.out.1.len; omega
   obtain ⟨ad, X, xc, eA, x0, x1, x2, x3⟩ := at_T58 (HR.out.1.below HB.out).C (j : Int) hj0 hltz
   obtain ⟨ad2, Y, yc, eB, y0, y1, y2, y3⟩ := at_T58 (HR.out.2.below HB.out).C (j : Int) hj0 hltz
   rw [rd58_get hjt] at x0 x1 x2 x3 y0 y1 y2 y3
   rw [show ((j : Int)).toNat * 2 = j * 2 by omega] at x0 x1 y0 y1
   have hy := HF.out t[j] (List.getElem_mem hjt)
   generalize t[j] = y at *
   have hd : Go.RowKit.Below wr.heap.size wr wr.drew := below_drew1 (Go.RowKit.Below.refl _ _)
   have CK : Aside0 (Calls Tryz.prog 39 #[.agg #[.string y.f0, .slice X y.f1.length xc], .agg #[.string y.f0, .slice Y y.f1.length yc]] wr.drew fun e w' => e = .returned (.bool true) ∧ Go.RowKit.Below wr.heap.size wr w') := ⟨by
    have := @cKFact wr.drew X Y xc yc y.f0 y.f0 y.f1 y.f1 hy x2 (Kd.C_below x3 hd) y2 (Kd.C_below y3 hd)
    rw [decide_eq_true (show y.f0 = y.f0 ∧ y.f1 = y.f1 from ⟨rfl, rfl⟩)] at this
    exact this.mono fun e w' h => ⟨h.1, hd.trans h.2⟩⟩
   have kw : IntKind.i64.wrap ((j : Int) + 1) = ((j + 1 : Nat) : Int) := by rw [show (j : Int) + 1 = ((j + 1 : Nat) : Int) by omega]; exact kwrap (by omega) (by omega)
   subst eA eB
   have HJ := Aside0.mk hlt
   clear hd x2 x3 y2 y3 hlt
   go_wp2
   go_region_held3 (fun w' => w'.cell? (ad.add (j * 2)) = some (.string y.f0) ∧ w'.cell? ⟨(ad.add (j * 2)).block, (ad.add (j * 2)).off + 1, none⟩ = some (.slice X y.f1.length xc) ∧ w'.cell? (ad2.add (j * 2)) = some (.string y.f0) ∧ w'.cell? ⟨(ad2.add (j * 2)).block, (ad2.add (j * 2)).off + 1, none⟩ = some (.slice Y y.f1.length yc))
    (first | (refine ⟨?_, ?_, ?_, ?_⟩ <;> assumption) | go_keep)
    (first
     | (go_at_call 39; (with_reducible refine CK.out.mono ?_); rintro e w3 ⟨rfl, hb⟩; have HB3 := Aside0.mk (HB.out.trans (hb.mono HB.out.size)); replace x0 := mvc hb x0; replace x1 := mvc hb x1; replace y0 := mvc hb y0; replace y1 := mvc hb y1; clear hb)
     | fail)
   all_goals go_wp2
   all_goals (
    go_roundg (tn - (j + 1))
    case measure => have := HJ.out; omega
    case rel => exact ⟨j + 1, by go_num, HJ.out, Nat.le_refl _, HB3⟩)
  ·have hltz : ¬ (j : Int) < (tn : Int) := by omega
   go_wp2
   go_ret
   exact ⟨rfl, HB.out⟩
end Go.Proofs.YtghommaokdhjmaaGreat.Sat
/- The reference's Sat is what the formula's rows say; its match is the code's: of right things whose variables have values. -/
namespace Go.Proofs.YtghommaokdhjmaaGreat.Sat
open Go.RowKit Go.Lib Go.Sort Go.Proofs.SymP Go.Proofs.YtghommaokdhjmaaGreatW.PrintWords P FactC IRow Frm SpecM SpecB PSat PSpec CmpF BothB SortStr Str
theorem term_name {t : S92} (h : termP t = true) (hc : ¬ con t) : varP t.f0 = true := by
 unfold termP at h
 rw [if_neg (show ¬ t.f0.toList = [] from hc)] at h
 simp only [Bool.and_eq_true] at h
 exact h.1
theorem match_one : ∀ (ts : List S92) (vs : List S64) (l : List S66), ts.length = vs.length → chkP l = 0 → (∀ t ∈ ts, termP t = true) → (∀ v ∈ vs, valP v.f0 v.f1 v.f2 = 0) → matchR ts vs l = oneL l ts vs
 | [], vs, l, _, _, _, _ => by rw [matchR, oneL]
 | t :: ts, [], l, h, _, _, _ => by simp at h
 | t :: ts, v :: vs, l, hn, hl, ht, hv => by
  have hn' : ts.length = vs.length := by simpa using hn
  have ht' := fun x hx => ht x (List.mem_cons_of_mem _ hx)
  have hv' := fun x hx => hv x (List.mem_cons_of_mem _ hx)
  rw [matchR, oneL]
  by_cases hc : con t
  ·rw [if_pos hc, if_pos hc, match_one ts vs l hn' hl ht' hv']
  ·rw [if_neg hc, if_neg hc]
   have hx : rightP (bnd t v) = true := by
    unfold rightP bnd
    rw [term_name (ht t List.mem_cons_self) hc, hv v List.mem_cons_self]
    rfl
   rcases bindP_cases hl hx with ⟨m, e, hw⟩ | ⟨e, hw⟩
   ·rw [e, put_with hw]
    simp only [if_true]
    exact match_one ts vs m hn' hw.2.2.1 ht' hv'
   ·rcases put_cases l (bnd t v) with ⟨m, e2, hw2⟩ | ⟨e2, _⟩
    ·exact absurd hw2 (hw m)
    ·rw [e2, e]; simp
theorem grL_some {l : List S66} : ∀ ts : List S92, (∀ t ∈ ts, ¬ con t → (getP l t.f0).2.2.2 = true) → ∃ r, grL l ts = some r
 | [], _ => ⟨[], rfl⟩
 | t :: ts, h => by
  obtain ⟨r, hr⟩ := grL_some (l := l) ts (fun x hx => h x (List.mem_cons_of_mem _ hx))
  by_cases hc : con t
  ·exact ⟨_, by rw [grL, if_pos hc, hr]; rfl⟩
  ·exact ⟨_, by rw [grL, if_neg hc, if_pos (h t List.mem_cons_self hc), hr]; rfl⟩
theorem froms_mat : ∀ (l : List S62) (i : Nat) (fr dp : List Int) (r : List Int × List Int), fromsP l i fr dp = some r → ∀ x ∈ l, x.f0 = 1 → matP x.f1.f0 x.f1.f1 = 0 := by
 intro l
 induction l with
 | nil => intro _ _ _ _ _ x hx; simp at hx
 | cons y l ih =>
  intro i fr dp r h x hx h1
  simp only [fromsP] at h
  rcases hs : stepN y i fr dp with _ | ⟨a, b⟩
  ·rw [hs] at h; cases h
  ·rw [hs] at h
   rcases List.mem_cons.1 hx with rfl | hx
   ·unfold stepN at hs
    rw [if_pos (show arms x.f0 = 0 by rw [h1]; rfl)] at hs
    split at hs
    ·cases hs
    ·omega
   ·exact ih _ _ _ _ h x hx h1
theorem chk_mat {l : List S62} (h : chkN l = 0) : ∀ x ∈ l, x.f0 = 1 → matP x.f1.f0 x.f1.f1 = 0 := by
 obtain ⟨fr, dp, hq, _⟩ := chk_froms h
 exact froms_mat l 0 [] [] _ hq
theorem unb_term {l : List S62} {b : List S66} (h : unbP l b = false) {x : S62} (hx : x ∈ l) : ∀ t ∈ x.f1.f1, ¬ con t → (getP b t.f0).2.2.2 = true := by
 intro t ht hc
 unfold unbP at h
 rw [List.any_eq_false] at h
 have := h t.f0 (List.mem_flatMap.2 ⟨x, hx, (vars_mem x.f1.f1 [] _).2 (.inr ⟨t, ht, hc, rfl⟩)⟩)
 simpa using this
theorem ev_ref {t : List S58} {b : List S66} {x : S25} {r : List S64} (hm : matP x.f0 x.f1 = 0) (hb : chkP b = 0) (hr : grL b x.f1 = some r) (p : Nat) : evP t b x p = decide (x.f0 = (rd_T58 t (p : Int)).f0 ∧ r = (rd_T58 t (p : Int)).f1) := by
 unfold evP groundP
 rw [if_pos hm, if_pos hb, hr]
 show (true && (factCmp x.f0 r (rd_T58 t (p : Int)).f0 (rd_T58 t (p : Int)).f1 == 0)) = _
 rw [Bool.true_and, Bool.eq_iff_iff, beq_iff_eq, decide_eq_true_eq]
 constructor
 ·intro h
  have := Fct.ord53.zero (⟨x.f0, r⟩ : S58) (rd_T58 t (p : Int)) h
  rw [← this]
  exact ⟨rfl, rfl⟩
 ·rintro ⟨h1, h2⟩
  rw [← h1, ← h2]
  exact Fct.ord53.self (⟨x.f0, r⟩ : S58)
section
variable (ev : S25 → Nat → Bool)
theorem rowsF_pre : ∀ (l : List S62) (rows : List (Nat → Bool)), ∃ more, rowsF ev rows l = rows ++ more := by
 intro l
 induction l with
 | nil => intro rows; exact ⟨[], by rw [List.append_nil]; rfl⟩
 | cons x l ih =>
  intro rows
  obtain ⟨more, h⟩ := ih (rows ++ [rowOf ev rows x])
  exact ⟨[rowOf ev rows x] ++ more, by rw [rowsF_cons, h, List.append_assoc]⟩
theorem rows_ahead {l : List S62} {q : Nat} (hq : q ≤ l.length) {z : Int} (h0 : 0 ≤ z) (hz : z < q) : getR (rowsP ev (l.take q)) z = getR (rowsP ev l) z := by
 obtain ⟨more, h⟩ := rowsF_pre ev (l.drop q) (rowsP ev (l.take q))
 have e : rowsP ev l = rowsP ev (l.take q) ++ more := by
  rw [← h]
  show rowsF ev [] l = rowsF ev (rowsF ev [] (l.take q)) (l.drop q)
  rw [← rowsF_append, List.take_append_drop]
 rw [e, getR_left _ _ _ (by rw [rowsP_length, List.length_take]; omega) (by rw [rowsP_length, List.length_take]; omega)]
theorem rows_at {l : List S62} {q : Nat} (hq : q < l.length) : getR (rowsP ev l) (q : Int) = rowOf ev (rowsP ev (l.take q)) l[q] := by
 have hl : (rowsP ev (l.take q)).length = q := by rw [rowsP_length, List.length_take]; omega
 rw [← rows_ahead ev (q := q + 1) (by omega) (by omega) (by omega), List.take_succ_eq_append_getElem hq, rowsP_snoc, getR_last _ _ _ hl]
end
theorem Rs.congr {w : World} {A T B : Option Addr} {n c tn tc bn bc q : Nat} {f g : Nat → Bool} (h : Rs w A T B n c tn tc bn bc q f) (e : ∀ p, p < tn → f p = g p) : Rs w A T B n c tn tc bn bc q g := fun p hp W hW => by rw [← e p hp]; exact h p hp W hW
theorem rsat {w : World} {A T B : Option Addr} {n c tn tc bn bc : Nat} {l : List S62} {t : List S58} {b : List S66} (hl : NRow w A n c l) (ht : TRow w T tn tc t) (hb : BRow w B bn bc b) (hf : fitNs l) (hk : chkN l = 0) (hbk : chkP b = 0) (hu : unbP l b = false) (htn : tn ≤ 1000000) (hbn : bn ≤ 1000000) : ∀ q, q < n → Rs w A T B n c tn tc bn bc q (getR (rowsP (evP t b) l) (q : Int)) := by
 have hin := (chk_inL hk).1
 have hn := hl.len
 intro q
 induction q using Nat.strongRecOn with
 | ind q ih =>
  intro hq
  have hql : q < l.length := by omega
  have hI := hin q hql
  have hR := rows_at (evP t b) hql
  have hx : rd_T62 l (q : Int) = l[q] := rd62_get hql
  have hmem : l[q] ∈ l := List.getElem_mem hql
  have hup : ∀ z : Int, 0 ≤ z → z < q → getR (rowsP (evP t b) (l.take q)) z = getR (rowsP (evP t b) l) z := fun z h0 h1 => rows_ahead (evP t b) (by omega) h0 h1
  generalize l[q] = x at *
  obtain ⟨i2, i3, k1, k8⟩ := hI
  rw [hR]
  unfold rowOf
  by_cases h1 : x.f0 = 1
  ·rw [if_pos h1]
   obtain ⟨r, hr⟩ := grL_some x.f1.f1 (unb_term hu hmem)
   have hg : groundR x.f1.f0 x.f1.f1 b = (x.f1.f0, r, true) := by unfold groundR; rw [hr]
   have hfx := hf.1 x hmem
   have hrl : r.length ≤ 1000000 := by have := grL_len b _ _ hr; have := hfx.2; omega
   refine (sat_is hl hq hx h1 ht (gn := x.f1.f0) (gl := r) (ok := true) (fun W A2 c2 hW q1 q2 => ?_) (fun y W A' c' A1 c1 q1 q2 q3 q4 => cKFact _ _ _ _ (by omega) q1 q2 q3 q4)).congr (fun p _ => (ev_ref (chk_mat hk x hmem h1) hbk hr p).symm)
   have := rground_calls x.f1.f0 q2 q1 (hb.below hW) hbn (by have := hfx.2; omega)
   rw [hg] at this
   exact this
  ·rw [if_neg h1]
   obtain ⟨a, ha⟩ : ∃ a : Nat, x.f2 = (a : Int) := ⟨x.f2.toNat, by have := i2 h1; omega⟩
   have haq : a < q := by have := i2 h1; omega
   have HA := ih a haq (by omega)
   rw [ha, hup _ (by omega) (by omega)]
   have hB : two x.f0 → ∃ b' : Nat, x.f3 = (b' : Int) ∧ b' < q ∧ Rs w A T B n c tn tc bn bc b' (getR (rowsP (evP t b) l) x.f3) ∧ getR (rowsP (evP t b) (l.take q)) x.f3 = getR (rowsP (evP t b) l) x.f3 := fun h2 => by
    have h3 := i3 h2
    refine ⟨x.f3.toNat, by omega, by omega, ?_, hup _ (by omega) (by omega)⟩
    have := ih x.f3.toNat (by omega) (by omega)
    rwa [show ((x.f3.toNat : Nat) : Int) = x.f3 by omega] at this
   have hkk : x.f0 = 2 ∨ x.f0 = 3 ∨ x.f0 = 4 ∨ x.f0 = 5 ∨ x.f0 = 6 ∨ x.f0 = 7 ∨ x.f0 = 8 := by omega
   rcases hkk with e | e | e | e | e | e | e
   ·rw [e]; exact sat_neg (b := 0) htn hl hq hx e ha HA
   ·obtain ⟨b', hb', _, HB, e2⟩ := hB (by rw [e]; decide)
    rw [e, e2]; exact sat_and htn hl hq hx e ha HA hb' HB
   ·obtain ⟨b', hb', _, HB, e2⟩ := hB (by rw [e]; decide)
    rw [e, e2]; exact sat_or htn hl hq hx e ha HA hb' HB
   ·rw [e]; exact sat_before (b := 0) htn hl hq hx e ha HA
   ·rw [e]; exact sat_once (b := 0) htn hl hq hx e ha HA
   ·rw [e]; exact sat_always (b := 0) htn hl hq hx e ha HA
   ·obtain ⟨b', hb', _, HB, e2⟩ := hB (by rw [e]; decide)
    rw [e, e2]; exact sat_since htn hl hq hx e ha HA hb' HB
end Go.Proofs.YtghommaokdhjmaaGreat.Sat
namespace Go.Proofs.YtghommaokdhjmaaGreatW.PrintWords
open Go.RowKit
def Kept (w W : World) (S : Nat → Prop) : Prop := w.heap.size ≤ W.heap.size ∧ ∀ i, i < w.heap.size → ¬ S i → W.heap[i]? = w.heap[i]?
section
variable {w W W2 : World} {S S2 S' : Nat → Prop}
theorem Kept.refl (w : World) (S : Nat → Prop) : Kept w w S := ⟨Nat.le_refl _, fun _ _ _ => rfl⟩
theorem Kept.of_below (h : Below w.heap.size w W) (S : Nat → Prop) : Kept w W S := ⟨h.size, fun i hi _ => h.block i hi⟩
theorem Kept.mono (h : Kept w W S) (hs : ∀ k, S k → S' k) : Kept w W S' := ⟨h.1, fun i hi hn => h.2 i hi (fun hk => hn (hs i hk))⟩
theorem Kept.then_ (h : Kept w W S) (k : Kept W W2 S2) (hs : ∀ k, S2 k → S k ∨ w.heap.size ≤ k) : Kept w W2 S :=
  ⟨Nat.le_trans h.1 k.1, fun i hi hn => (k.2 i (Nat.lt_of_lt_of_le hi h.1) (fun h2 => (hs i h2).elim hn (fun h3 => by omega))).trans (h.2 i hi hn)⟩
theorem Kept.of_grown {row : Option Nat} (hg : W.grownBy W2 row) (h : Kept w W S) (hr : ∀ k, row = some k → S k ∨ w.heap.size ≤ k) : Kept w W2 S :=
  h.then_ (S2 := fun k => row = some k) ⟨hg.size, fun i hi hn => hg.block i hi (fun he => hn he.symm)⟩ hr
theorem Kept.below (h : Kept w W S) (hb : Below W.heap.size W W2) : Kept w W2 S := h.then_ (Kept.of_below hb (fun _ => False)) (fun _ hk => hk.elim)
theorem Kept.alloc (h : Kept w W S) (o : Obj) : Kept w (W.alloc o) S := h.below (below_alloc (Below.refl _ _) o)
theorem Kept.drew (h : Kept w W S) : Kept w W.drew S := h
theorem Kept.drewN (h : Kept w W S) (m : Nat) : Kept w (W.drewN m) S := h
theorem Kept.setCell (h : Kept w W S) {p : Addr} (hp : S p.block ∨ w.heap.size ≤ p.block) (u : Value) : Kept w (W.setCell p u) S :=
  h.then_ (S2 := fun k => k = p.block) ⟨by simp [World.setCell], fun i _ hn => Below.heap_setCell W p u i hn⟩ (fun k hk => by rw [hk]; exact hp)
theorem blk_kept {g : Nat} {o : Obj} (hb : W.heap[g]? = some o) (hk : Kept W W2 S) (hne : ¬ S g) : W2.heap[g]? = some o := (hk.2 g (blk_lt hb) hne).trans hb
end
end Go.Proofs.YtghommaokdhjmaaGreatW.PrintWords
namespace Go.Proofs.YtghommaokdhjmaaGreat.P
open Go.RowKit Go.Proofs.YtghommaokdhjmaaGreatW.PrintWords Go.Proofs.YtghommaokdhjmaaGreatW.PrintLast Gate
def qf74.l0 : Nat → List ByteArray → ByteArray → Int → Option (Bool)
 | 0, _, _, _ => none
 | k + 1, x0, x1, x5 => if x5 < (x0.length : Int) then (if 0 ≤ x5 then (if (rdOf ByteArray.empty x0 x5).toList = x1.toList then (some true) else (qf74.l0 k x0 x1 (wrap64 (x5 + 1)))) else (none)) else (some false)
def qf74.f (k : Nat) (l0 : List ByteArray) (a1 : ByteArray) : Option (Bool) := qf74.l0 k l0 a1 0
set_option maxHeartbeats 8000000 in
set_option maxRecDepth 100000 in
theorem qf74.calls (k : Nat) (A0 : Option Addr) (c0 : Nat) (l0 : List ByteArray) (a1 : ByteArray) (r : Bool) (w : World) (hr0 : Kd.C Kd.string w A0 l0.length l0) (hc0 : l0.length ≤ c0) (h : qf74.f k l0 a1 = some r) :
  Calls Tryz.prog 74 #[.slice A0 l0.length c0, .string a1] w fun e w' => e = .returned (.bool r) ∧ Drawn0 w w' := by
 have HR0 := Aside0.mk hr0
 have HC0 := Aside0.mk hc0
 clear hr0 hc0
 have H : (qf74.l0 k l0 a1 0) = some r := h
 clear h
 have H' := Aside0.mk H
 clear H
 go_enter Tryz.func74, Tryz.ntmps74
 go_wp2
 go_loopg [5] k (fun kq v5 w' => ∃ (x5_1 : Int), v5 = .int .i64 x5_1 ∧ Aside0 (qf74.l0 kq l0 a1 x5_1 = some r) ∧ Aside0 (kq ≤ k) ∧ Drawn0 w w')
 case atStart => exact ⟨(0), (by first | rfl | (simp; done) | (simp [*]; done)), H', ⟨Nat.le_refl _⟩, by repeat (first | exact Drawn0.refl _ | apply Drawn0.step)⟩
 case round =>
  clear H'
  (try clear p2)
  obtain ⟨x5_1, rfl, HA, HK1, ⟨m1, rfl⟩⟩ := hrel
  cases gk with
  | zero => exact absurd HA.out (by simp [qf74.l0])
  | succ k1 =>
   have H := HA.out
   clear HA
   simp only [qf74.l0] at H
   by_cases c3 : x5_1 < (l0.length : Int)
   ·rw [if_pos c3] at H
    have c3b0 : decide (x5_1 < (l0.length : Int)) = true := decide_eq_true c3
    clear c3
    by_cases c4 : 0 ≤ x5_1
    ·rw [if_pos c4] at H
     have c4b0 : decide (0 ≤ x5_1) = true := decide_eq_true c4
     clear c4
     by_cases c5 : (rdOf ByteArray.empty l0 x5_1).toList = a1.toList
     ·rw [if_pos c5] at H
      have c5b0 : ((rdOf ByteArray.empty l0 x5_1).toList == a1.toList) = true := beq_iff_eq.mpr c5
      have c5b1 : ((rdOf ByteArray.empty l0 x5_1).toList != a1.toList) = false := bne_eq_false_iff_eq.mpr c5
      clear c5
      obtain rfl := Option.some.inj H
      have p818 : 0 ≤ (x5_1 : Int) := of_decide_eq_true (by first | (with_reducible assumption) | assumption)
      have q818 : x5_1 < (l0.length : Int) := of_decide_eq_true (by first | (with_reducible assumption) | assumption)
      obtain ⟨ad818, e818, hx818_0⟩ := Kd.at_string HR0.out x5_1 p818 q818
      cases e818
      replace p818 := eq_true p818
      replace q818 := eq_true q818
      go_wp2
      go_ret
      exact drz
     ·rw [if_neg c5] at H
      have c5b0 : ((rdOf ByteArray.empty l0 x5_1).toList == a1.toList) = false := beq_eq_false_iff_ne.mpr c5
      have c5b1 : ((rdOf ByteArray.empty l0 x5_1).toList != a1.toList) = true := bne_iff_ne.mpr c5
      have H' := Aside0.mk H
      clear H
      have p818 : 0 ≤ (x5_1 : Int) := of_decide_eq_true (by first | (with_reducible assumption) | assumption)
      have q818 : x5_1 < (l0.length : Int) := of_decide_eq_true (by first | (with_reducible assumption) | assumption)
      obtain ⟨ad818, e818, hx818_0⟩ := Kd.at_string HR0.out x5_1 p818 q818
      cases e818
      replace p818 := eq_true p818
      replace q818 := eq_true q818
      go_wp2
      go_roundg k1
      case measure => have := HK1.out; omega
      case rel => exact ⟨(wrap64 (x5_1 + 1)), (by first | rfl | (simp; done) | (simp [*]; done)), H', ⟨by have := HK1.out; omega⟩, by repeat (first | exact Drawn0.refl _ | apply Drawn0.step)⟩
    ·rw [if_neg c4] at H
     exact absurd H (by simp)
   ·rw [if_neg c3] at H
    have c3b0 : decide (x5_1 < (l0.length : Int)) = false := decide_eq_false c3
    clear c3
    obtain rfl := Option.some.inj H
    go_wp2
    go_ret
    exact drz
def qf42.l0 : Nat → List ByteArray → List ByteArray → Int → Option (Bool)
 | 0, _, _, _ => none
 | k + 1, x0, x1, x5 => if x5 < (x0.length : Int) then (if 0 ≤ x5 then ((qf74.f k x1 (rdOf ByteArray.empty x0 x5)).bind fun t820 => (if t820 = true then (qf42.l0 k x0 x1 (wrap64 (x5 + 1))) else (some false))) else (none)) else (some true)
def qf42.f (k : Nat) (l0 : List ByteArray) (l1 : List ByteArray) : Option (Bool) := qf42.l0 k l0 l1 0
set_option maxHeartbeats 8000000 in
set_option maxRecDepth 100000 in
theorem qf42.calls (k : Nat) (A0 : Option Addr) (c0 : Nat) (l0 : List ByteArray) (A1 : Option Addr) (c1 : Nat) (l1 : List ByteArray) (r : Bool) (w : World) (hr0 : Kd.C Kd.string w A0 l0.length l0) (hc0 : l0.length ≤ c0) (hr1 : Kd.C Kd.string w A1 l1.length l1) (hc1 : l1.length ≤ c1) (h : qf42.f k l0 l1 = some r) :
  Calls Tryz.prog 42 #[.slice A0 l0.length c0, .slice A1 l1.length c1] w fun e w' => e = .returned (.bool r) ∧ Drawn0 w w' := by
 have HR0 := Aside0.mk hr0
 have HC0 := Aside0.mk hc0
 clear hr0 hc0
 have HR1 := Aside0.mk hr1
 have HC1 := Aside0.mk hc1
 clear hr1 hc1
 have H : (qf42.l0 k l0 l1 0) = some r := h
 clear h
 have H' := Aside0.mk H
 clear H
 go_enter Tryz.func42, Tryz.ntmps42
 go_wp2
 go_loopg [5] k (fun kq v5 w' => ∃ (x5_1 : Int), v5 = .int .i64 x5_1 ∧ Aside0 (qf42.l0 kq l0 l1 x5_1 = some r) ∧ Aside0 (kq ≤ k) ∧ Drawn0 w w')
 case atStart => exact ⟨(0), (by first | rfl | (simp; done) | (simp [*]; done)), H', ⟨Nat.le_refl _⟩, by repeat (first | exact Drawn0.refl _ | apply Drawn0.step)⟩
 case round =>
  clear H'
  (try clear c1); (try clear p2)
  obtain ⟨x5_1, rfl, HA, HK1, ⟨m1, rfl⟩⟩ := hrel
  cases gk with
  | zero => exact absurd HA.out (by simp [qf42.l0])
  | succ k1 =>
   have H := HA.out
   clear HA
   simp only [qf42.l0] at H
   by_cases c3 : x5_1 < (l0.length : Int)
   ·rw [if_pos c3] at H
    have c3b0 : decide (x5_1 < (l0.length : Int)) = true := decide_eq_true c3
    clear c3
    by_cases c4 : 0 ≤ x5_1
    ·rw [if_pos c4] at H
     have c4b0 : decide (0 ≤ x5_1) = true := decide_eq_true c4
     clear c4
     replace H := Option.bind_eq_some_iff.mp H
     obtain ⟨t820, A50, H⟩ := H
     replace H : (if t820 = true then (qf42.l0 k1 l0 l1 (wrap64 (x5_1 + 1))) else (some false)) = some r := H
     have A5 := Aside0.mk A50
     clear A50
     by_cases c6 : t820 = true
     ·subst c6
      have H1 : (qf42.l0 k1 l0 l1 (wrap64 (x5_1 + 1))) = some r := by rw [if_pos rfl] at H; exact H
      clear H
      have H := H1
      clear H1
      have H' := Aside0.mk H
      clear H
      have p819 : 0 ≤ (x5_1 : Int) := of_decide_eq_true (by first | (with_reducible assumption) | assumption)
      have q819 : x5_1 < (l0.length : Int) := of_decide_eq_true (by first | (with_reducible assumption) | assumption)
      obtain ⟨ad819, e819, hx819_0⟩ := Kd.at_string HR0.out x5_1 p819 q819
      cases e819
      replace p819 := eq_true p819
      replace q819 := eq_true q819
      go_wp2_with (first | ((with_reducible refine gate_callee (f := 74) rfl ?_); refine goesL_ (some 17) rfl rfl Tryz.func74 (by kernel_rfl) rfl #[.slice A1 l1.length c1, .string (rdOf ByteArray.empty l0 x5_1)] rfl aG ?_; (with_reducible refine (qf74.calls k1 _ _ l1 (rdOf ByteArray.empty l0 x5_1) true _ ?side1 ?side2 A5.out).mono ?_); (case side1 => exact sC HR1.out); (case side2 => exact HC1.out); rintro e w' ⟨rfl, ⟨nd, rfl⟩⟩; refine ⟨_, rfl, ?_⟩))
      go_roundg k1
      case measure => have := HK1.out; omega
      case rel => exact ⟨(wrap64 (x5_1 + 1)), (by first | rfl | (simp; done) | (simp [*]; done)), H', ⟨by have := HK1.out; omega⟩, by repeat (first | exact Drawn0.refl _ | apply Drawn0.step)⟩
     ·replace c6 := Bool.eq_false_iff.mpr c6
      subst c6
      have H1 : (some false) = some r := by rw [if_neg (show ¬ (false = true) by decide)] at H; exact H
      clear H
      have H := H1
      clear H1
      obtain rfl := Option.some.inj H
      have p819 : 0 ≤ (x5_1 : Int) := of_decide_eq_true (by first | (with_reducible assumption) | assumption)
      have q819 : x5_1 < (l0.length : Int) := of_decide_eq_true (by first | (with_reducible assumption) | assumption)
      obtain ⟨ad819, e819, hx819_0⟩ := Kd.at_string HR0.out x5_1 p819 q819
      cases e819
      replace p819 := eq_true p819
      replace q819 := eq_true q819
      go_wp2_with (first | ((with_reducible refine gate_callee (f := 74) rfl ?_); refine goesL_ (some 17) rfl rfl Tryz.func74 (by kernel_rfl) rfl #[.slice A1 l1.length c1, .string (rdOf ByteArray.empty l0 x5_1)] rfl aG ?_; (with_reducible refine (qf74.calls k1 _ _ l1 (rdOf ByteArray.empty l0 x5_1) false _ ?side1 ?side2 A5.out).mono ?_); (case side1 => exact sC HR1.out); (case side2 => exact HC1.out); rintro e w' ⟨rfl, ⟨nd, rfl⟩⟩; refine ⟨_, rfl, ?_⟩))
      go_ret
      exact drz
    ·rw [if_neg c4] at H
     exact absurd H (by simp)
   ·rw [if_neg c3] at H
    have c3b0 : decide (x5_1 < (l0.length : Int)) = false := decide_eq_false c3
    clear c3
    obtain rfl := Option.some.inj H
    go_wp2
    go_ret
    exact drz
def qf75.l0 : Nat → List (S62) → Int → Option (Int)
 | 0, _, _ => none
 | k + 1, x0, x1 => if 0 ≤ x1 then (if x1 < (x0.length : Int) then (if ((rd_T62 x0 x1).f0) = 1 then (some x1) else (qf75.l0 k x0 ((rd_T62 x0 x1).f2))) else (none)) else (none)
def qf75.f (k : Nat) (l0 : List (S62)) (a1 : Int) : Option (Int) := qf75.l0 k l0 a1
set_option maxHeartbeats 8000000 in
set_option maxRecDepth 100000 in
theorem qf75.calls (k : Nat) (A0 : Option Addr) (c0 : Nat) (l0 : List (S62)) (a1 : Int) (r : Int) (w : World) (hr0 : Kd.C k62 w A0 l0.length l0) (hc0 : l0.length ≤ c0) (h : qf75.f k l0 a1 = some r) :
  Calls Tryz.prog 75 #[.slice A0 l0.length c0, .int .i64 a1] w fun e w' => e = .returned (.int .i64 r) ∧ Drawn0 w w' := by
 have HR0 := Aside0.mk hr0
 have HC0 := Aside0.mk hc0
 clear hr0 hc0
 have H : (qf75.l0 k l0 a1) = some r := h
 clear h
 have H' := Aside0.mk H
 clear H
 go_enter Tryz.func75, Tryz.ntmps75
 go_wp2
 go_loopg [1] k (fun kq v1 w' => ∃ (x1_1 : Int), v1 = .int .i64 x1_1 ∧ Aside0 (qf75.l0 kq l0 x1_1 = some r) ∧ Aside0 (kq ≤ k) ∧ Drawn0 w w')
 case atStart => exact ⟨(a1), (by first | rfl | (simp; done) | (simp [*]; done)), H', ⟨Nat.le_refl _⟩, by repeat (first | exact Drawn0.refl _ | apply Drawn0.step)⟩
 case round =>
  clear H'
  (try clear p2)
  obtain ⟨x1_1, rfl, HA, HK1, ⟨m1, rfl⟩⟩ := hrel
  cases gk with
  | zero => exact absurd HA.out (by simp [qf75.l0])
  | succ k1 =>
   have H := HA.out
   clear HA
   simp only [qf75.l0] at H
   by_cases c3 : 0 ≤ x1_1
   ·rw [if_pos c3] at H
    have c3b0 : decide (0 ≤ x1_1) = true := decide_eq_true c3
    clear c3
    by_cases c4 : x1_1 < (l0.length : Int)
    ·rw [if_pos c4] at H
     have c4b0 : decide (x1_1 < (l0.length : Int)) = true := decide_eq_true c4
     clear c4
     by_cases c5 : ((rd_T62 l0 x1_1).f0) = 1
     ·rw [if_pos c5] at H
      have c5b0 : (((rd_T62 l0 x1_1).f0) == 1) = true := beq_iff_eq.mpr c5
      have c5b1 : (((rd_T62 l0 x1_1).f0) != 1) = false := bne_eq_false_iff_eq.mpr c5
      clear c5
      obtain rfl := Option.some.inj H
      have p830 : 0 ≤ (x1_1 : Int) := of_decide_eq_true (by first | (with_reducible assumption) | assumption)
      have q830 : x1_1 < (l0.length : Int) := of_decide_eq_true (by first | (with_reducible assumption) | assumption)
      obtain ⟨ad830, A830_2, c830_2, e830, hx830_0, hx830_1, hx830_2, hx830_3, hx830_4, hl830_2, hi830_2⟩ := at_T62 HR0.out x1_1 p830 q830
      cases e830
      have HZ830_2 := Aside0.mk hx830_2
      have HR830_2 := Aside0.mk hi830_2
      have HC830_2 := Aside0.mk hl830_2
      clear hi830_2 hl830_2
      replace p830 := eq_true p830
      replace q830 := eq_true q830
      go_wp2
      go_ret
      exact drz
     ·rw [if_neg c5] at H
      have c5b0 : (((rd_T62 l0 x1_1).f0) == 1) = false := beq_eq_false_iff_ne.mpr c5
      have c5b1 : (((rd_T62 l0 x1_1).f0) != 1) = true := bne_iff_ne.mpr c5
      have H' := Aside0.mk H
      clear H
      have p830 : 0 ≤ (x1_1 : Int) := of_decide_eq_true (by first | (with_reducible assumption) | assumption)
      have q830 : x1_1 < (l0.length : Int) := of_decide_eq_true (by first | (with_reducible assumption) | assumption)
      obtain ⟨ad830, A830_2, c830_2, e830, hx830_0, hx830_1, hx830_2, hx830_3, hx830_4, hl830_2, hi830_2⟩ := at_T62 HR0.out x1_1 p830 q830
      cases e830
      have HZ830_2 := Aside0.mk hx830_2
      have HR830_2 := Aside0.mk hi830_2
      have HC830_2 := Aside0.mk hl830_2
      clear hi830_2 hl830_2
      replace p830 := eq_true p830
      replace q830 := eq_true q830
      have p831 : 0 ≤ (x1_1 : Int) := of_decide_eq_true (by first | (with_reducible assumption) | assumption)
      have q831 : x1_1 < (l0.length : Int) := of_decide_eq_true (by first | (with_reducible assumption) | assumption)
      obtain ⟨ad831, A831_2, c831_2, e831, hx831_0, hx831_1, hx831_2, hx831_3, hx831_4, hl831_2, hi831_2⟩ := at_T62 HR0.out x1_1 p831 q831
      obtain rfl : ad830 = ad831 := (by injection e831)
      have ea_ := Option.some.inj (HZ830_2.out.symm.trans hx831_2)
      injection ea_ with ea_ en_ ec_
      subst ea_
      subst ec_
      clear en_
      have HR831_2 := Aside0.mk hi831_2
      have HC831_2 := Aside0.mk hl831_2
      clear hi831_2 hl831_2
      replace p831 := eq_true p831
      replace q831 := eq_true q831
      go_wp2
      go_roundg k1
      case measure => have := HK1.out; omega
      case rel => exact ⟨((rd_T62 l0 x1_1).f2), (by first | rfl | (simp; done) | (simp [*]; done)), H', ⟨by have := HK1.out; omega⟩, by repeat (first | exact Drawn0.refl _ | apply Drawn0.step)⟩
    ·rw [if_neg c4] at H
     exact absurd H (by simp)
   ·rw [if_neg c3] at H
    exact absurd H (by simp)
def qf77.l0 : Nat → List ByteArray → ByteArray → Int → Option (List ByteArray)
 | 0, _, _, _ => none
 | k + 1, x0, x1, x5 => if x5 < (x0.length : Int) then (if 0 ≤ x5 then (if (rdOf ByteArray.empty x0 x5).toList = x1.toList then (some x0) else (qf77.l0 k x0 x1 (wrap64 (x5 + 1)))) else (none)) else (if x0.length < 8796093022208 then (some (x0 ++ [x1])) else (none))
def qf77.f (k : Nat) (l0 : List ByteArray) (a1 : ByteArray) : Option (List ByteArray) := if (a1.size : Int) = 0 then (some l0) else (qf77.l0 k l0 a1 0)
set_option maxHeartbeats 8000000 in
set_option maxRecDepth 100000 in
theorem qf77.calls (k : Nat) (P0_ : Nat → Prop) (u9000_ : Value) (l0 : List ByteArray) (a1 : ByteArray) (r : List ByteArray) (w0 w : World) (hB : Below w0.heap.size w0 w) (ho0 : Kd.R Kd.string 9 w w0.heap.size P0_ u9000_ l0) (h : qf77.f k l0 a1 = some r) :
  Calls Tryz.prog 77 #[u9000_, .string a1] w fun e w' => ∃ v0_ : Value, e = .returned (v0_) ∧ Kd.R Kd.string 9 w' w0.heap.size (fun k_ => (P0_ k_ ∨ w.heap.size ≤ k_)) v0_ r ∧ Below w0.heap.size w0 w' ∧ Kept w w' (fun k_ => P0_ k_) := by
 have HO0 := Aside0.mk (show Kd.R Kd.string 9 w w0.heap.size (fun k_ => (P0_ k_ ∨ w.heap.size ≤ k_)) u9000_ l0 from Kd.R_mono ho0 (fun k_ hk => (.inl hk)))
 have HK := Aside0.mk (Kept.refl w (fun k_ => P0_ k_))
 have HW0 := Aside0.mk hB.size
 have HB := Aside0.mk hB
 clear hB
 have H : (if (a1.size : Int) = 0 then (some l0) else (qf77.l0 k l0 a1 0)) = some r := h
 clear h
 by_cases c3 : (a1.size : Int) = 0
 ·rw [if_pos c3] at H
  have c3b0 : ((a1.size : Int) == 0) = true := beq_iff_eq.mpr c3
  have c3b1 : ((a1.size : Int) != 0) = false := bne_eq_false_iff_eq.mpr c3
  clear c3
  obtain rfl := Option.some.inj H
  go_enter Tryz.func77, Tryz.ntmps77
  go_wp2
  go_ret
  exact ⟨_, eW, by (with_reducible repeat (first | apply Kd.R_alloc | apply Kd.R_drewN | apply Kd.R_drew)); exact HO0.out, bB0, by repeat (first | (with_reducible first | exact HK.out | apply Kept.alloc | apply Kept.drewN | apply Kept.drew) | exact HK.out)⟩
 ·rw [if_neg c3] at H
  have c3b0 : ((a1.size : Int) == 0) = false := beq_eq_false_iff_ne.mpr c3
  have c3b1 : ((a1.size : Int) != 0) = true := bne_iff_ne.mpr c3
  have H' := Aside0.mk H
  clear H
  go_enter Tryz.func77, Tryz.ntmps77
  go_wp2
  go_loopg [5] k (fun kq v5 w' => ∃ (x5_1 : Int), v5 = .int .i64 x5_1 ∧ Aside0 (qf77.l0 kq l0 a1 x5_1 = some r) ∧ Aside0 (kq ≤ k) ∧ Aside0 (Kd.R Kd.string 9 w' w0.heap.size (fun k_ => (P0_ k_ ∨ w.heap.size ≤ k_)) u9000_ l0) ∧ Aside0 (Kept w w' (fun k_ => P0_ k_)) ∧ Aside0 (Below w0.heap.size w0 w'))
  case atStart => exact ⟨(0), (by first | rfl | (simp; done) | (simp [*]; done)), H', ⟨Nat.le_refl _⟩, ⟨by (with_reducible repeat (first | apply Kd.R_alloc | apply Kd.R_drewN | apply Kd.R_drew)); exact HO0.out⟩, ⟨by repeat (first | (with_reducible first | exact HK.out | apply Kept.alloc | apply Kept.drewN | apply Kept.drew) | exact HK.out)⟩, ⟨bB0⟩⟩
  case round =>
   clear H'
   (try clear p2); (try clear c3); (try clear c3b0); (try clear c3b1)
   obtain ⟨x5_1, rfl, HA, HK1, HO_0, HK, HB⟩ := hrel
   cases gk with
   | zero => exact absurd HA.out (by simp [qf77.l0])
   | succ k1 =>
    have H := HA.out
    clear HA
    simp only [qf77.l0] at H
    by_cases c4 : x5_1 < (l0.length : Int)
    ·rw [if_pos c4] at H
     have c4b0 : decide (x5_1 < (l0.length : Int)) = true := decide_eq_true c4
     clear c4
     by_cases c5 : 0 ≤ x5_1
     ·rw [if_pos c5] at H
      have c5b0 : decide (0 ≤ x5_1) = true := decide_eq_true c5
      clear c5
      by_cases c6 : (rdOf ByteArray.empty l0 x5_1).toList = a1.toList
      ·rw [if_pos c6] at H
       have c6b0 : ((rdOf ByteArray.empty l0 x5_1).toList == a1.toList) = true := beq_iff_eq.mpr c6
       have c6b1 : ((rdOf ByteArray.empty l0 x5_1).toList != a1.toList) = false := bne_eq_false_iff_eq.mpr c6
       clear c6
       obtain rfl := Option.some.inj H
       obtain ⟨Ao7, co7, eo7⟩ := Kd.R_slice HO_0.out
       subst eo7
       have p821 : 0 ≤ (x5_1 : Int) := of_decide_eq_true (by first | (with_reducible assumption) | assumption)
       have q821 : x5_1 < (l0.length : Int) := of_decide_eq_true (by first | (with_reducible assumption) | assumption)
       obtain ⟨ad821, e821, hx821_0⟩ := Kd.at_string (Kd.R_reads' HO_0.out).2.2 x5_1 p821 q821
       cases e821
       replace p821 := eq_true p821
       replace q821 := eq_true q821
       go_wp2
       go_ret
       exact ⟨_, eW, by (with_reducible repeat (first | apply Kd.R_alloc | apply Kd.R_drewN | apply Kd.R_drew)); exact HO_0.out, bB0, by repeat (first | (with_reducible first | exact HK.out | apply Kept.alloc | apply Kept.drewN | apply Kept.drew) | exact HK.out)⟩
      ·rw [if_neg c6] at H
       have c6b0 : ((rdOf ByteArray.empty l0 x5_1).toList == a1.toList) = false := beq_eq_false_iff_ne.mpr c6
       have c6b1 : ((rdOf ByteArray.empty l0 x5_1).toList != a1.toList) = true := bne_iff_ne.mpr c6
       have H' := Aside0.mk H
       clear H
       obtain ⟨Ao8, co8, eo8⟩ := Kd.R_slice HO_0.out
       subst eo8
       have p821 : 0 ≤ (x5_1 : Int) := of_decide_eq_true (by first | (with_reducible assumption) | assumption)
       have q821 : x5_1 < (l0.length : Int) := of_decide_eq_true (by first | (with_reducible assumption) | assumption)
       obtain ⟨ad821, e821, hx821_0⟩ := Kd.at_string (Kd.R_reads' HO_0.out).2.2 x5_1 p821 q821
       cases e821
       replace p821 := eq_true p821
       replace q821 := eq_true q821
       go_wp2
       go_roundg k1
       case measure => have := HK1.out; omega
       case rel => exact ⟨(wrap64 (x5_1 + 1)), (by first | rfl | (simp; done) | (simp [*]; done)), H', ⟨by have := HK1.out; omega⟩, ⟨by (with_reducible repeat (first | apply Kd.R_alloc | apply Kd.R_drewN | apply Kd.R_drew)); exact HO_0.out⟩, ⟨by repeat (first | (with_reducible first | exact HK.out | apply Kept.alloc | apply Kept.drewN | apply Kept.drew) | exact HK.out)⟩, ⟨bB0⟩⟩
     ·rw [if_neg c5] at H
      exact absurd H (by simp)
    ·rw [if_neg c4] at H
     have c4b0 : decide (x5_1 < (l0.length : Int)) = false := decide_eq_false c4
     clear c4
     by_cases c9 : l0.length < 8796093022208
     ·rw [if_pos c9] at H
      have LMc9 := Aside0.mk c9
      clear c9
      obtain ⟨y822, hy822⟩ : ∃ y_ : List ByteArray, y_ = (l0 ++ [a1]) := ⟨_, rfl⟩
      replace H : (some y822) = some r := by first | (rw [hy822]; with_reducible exact H) | (have H2_ := (Option.bind_some _ _).symm.trans H; rw [hy822]; with_reducible exact H2_) | (have H2_ := (Option.bind_some _ _).symm.trans H; with_reducible exact H2_) | with_reducible exact H | (rw [hy822]; exact H) | exact H
      have Ny822 := Aside0.mk hy822
      clear hy822
      obtain rfl := Option.some.inj H
      obtain ⟨Ao10, co10, eo10⟩ := Kd.R_slice HO_0.out
      subst eo10
      go_wp2_with (first | ((with_reducible refine gate_builtin (b := .append) (xs := #[.tmp 23, .tmp 25]) rfl ?_); at_builtin; refine Kd.R_append Kd.string (w0 := w0) w0.heap.size rfl (.tmp 23) (.tmp 25) 70 9 (.string ⟨#[]⟩) 16 rfl Tryz.underlying70 info9 rfl (by decide) (by omega) (.slice Ao10 l0.length co10) l0 a1 [.string a1] (fun k_ => (P0_ k_ ∨ w.heap.size ≤ k_)) (fun _ => False) rfl rfl ?aP (fun _ hk => hk.elim) ?aF ?aO ?aB ?aS ?aL ?_; (case aP => exact rfl); (case aB => exact bB0); (case aF => exact (fun k_ hk => (.inr (Nat.le_trans (by first | exact HK.out.1 | exact (show Kept w _ (fun k_ => P0_ k_) from by repeat (first | (with_reducible first | exact HK.out | apply Kept.alloc | apply Kept.drewN | apply Kept.drew) | exact HK.out)).1) hk)))); (case aO => exact (sR HO_0.out)); (case aS => exact (below_size bB0)); (case aL => have := LMc9.out; omega); intro v823 w11 ho hb hg hat; rw [← Ny822.out] at ho; have n0_ := Aside0.mk (hb); have n1_ := Aside0.mk (Kept.of_grown (S := (fun k_ => P0_ k_)) hg (by repeat (first | (with_reducible first | exact HK.out | apply Kept.alloc | apply Kept.drewN | apply Kept.drew) | exact HK.out)) (fun k_ e_ => (HO_0.out.1 k_ e_))); have n2_ := Aside0.mk (ho); clear HB; clear HK; clear HO_0; have HB := n0_; have HK := n1_; have HO824 := n2_; clear n0_ n1_ n2_; clear ho hb hg hat))
      go_ret
      exact ⟨_, eW, by (with_reducible repeat (first | apply Kd.R_alloc | apply Kd.R_drewN | apply Kd.R_drew)); exact HO824.out, bB0, by repeat (first | (with_reducible first | exact HK.out | apply Kept.alloc | apply Kept.drewN | apply Kept.drew) | exact HK.out)⟩
     ·rw [if_neg c9] at H
      exact absurd H (by simp)
def qf44.l0 : Nat → List ByteArray → Int → ByteArray → List (S92) → Option (List ByteArray)
 | 0, _, _, _, _ => none
 | k + 1, x3, x4, x826000, x826001 => if x4 < (x826001.length : Int) then (if 0 ≤ x4 then ((qf77.f k x3 ((rd_T92 x826001 x4).f0)).bind fun t827 => (qf44.l0 k t827 (wrap64 (x4 + 1)) x826000 x826001)) else (none)) else (some x3)
def qf44.f (k : Nat) (a0_0 : ByteArray) (l0_1 : List (S92)) : Option (List ByteArray) := qf44.l0 k ([] : List ByteArray) 0 a0_0 l0_1
set_option maxHeartbeats 8000000 in
set_option maxRecDepth 100000 in
theorem qf44.calls (k : Nat) (a0_0 : ByteArray) (A0_1 : Option Addr) (c0_1 : Nat) (l0_1 : List (S92)) (r : List ByteArray) (w : World) (hr0_1 : Kd.C k92 w A0_1 l0_1.length l0_1) (hc0_1 : l0_1.length ≤ c0_1) (h : qf44.f k a0_0 l0_1 = some r) :
  Calls Tryz.prog 44 #[.agg #[.string a0_0, .slice A0_1 l0_1.length c0_1]] w fun e w' => ∃ v0_ : Value, e = .returned (v0_) ∧ Kd.R Kd.string 9 w' w.heap.size (fun _ => True) v0_ r ∧ Below w.heap.size w w' := by
 have hu25 := Tryz.underlying25
 have HR0_1 := Aside0.mk hr0_1
 have HC0_1 := Aside0.mk hc0_1
 clear hr0_1 hc0_1
 have HB := Aside0.mk (Below.refl w.heap.size w)
 have H : (qf44.l0 k ([] : List ByteArray) 0 a0_0 l0_1) = some r := h
 clear h
 have H' := Aside0.mk H
 clear H
 go_enter Tryz.func44, Tryz.ntmps44
 go_wp2_with (first | ((with_reducible refine gate_dst (N := 1) rfl ?_); refine bE (N := 1) (cs := #[.string a0_0, .slice A0_1 l0_1.length c0_1]) (t := 25) ?_; intro gb825 hg w2 hbox hb; have n0_ := Aside0.mk (below_step bB0 hb); have n1_ := Aside0.mk (hbox); have n2_ := Aside0.mk ((by rw [hg]; exact (below_size bB0) : w.heap.size ≤ gb825)); have n3_ := Aside0.mk ((by rw [hg]; exact (below_size bB0) : w.heap.size ≤ gb825)); clear HB; have HB := n0_; have BK825 := n1_; have GW825 := n2_; have GE825 := n3_; clear n0_ n1_ n2_ n3_; clear hb hbox hg))
 go_loopg [3, 4] k (fun kq v3 v4 w' => ∃ (x3_1 : List ByteArray) (x4_1 : Int), v4 = .int .i64 x4_1 ∧ Aside0 (qf44.l0 kq x3_1 x4_1 a0_0 l0_1 = some r) ∧ Aside0 (kq ≤ k) ∧ Aside0 (Kd.R Kd.string 9 w' w.heap.size (fun _ => True) v3 x3_1) ∧ Aside0 (w'.heap[gb825]? = some (.cells #[.string a0_0, (.slice A0_1 l0_1.length c0_1)] 25 (0, 0))) ∧ Aside0 (Below w.heap.size w w'))
 case atStart => exact ⟨(([] : List ByteArray)), (0), (by first | rfl | (simp; done) | (simp [*]; done)), H', ⟨Nat.le_refl _⟩, ⟨by first | exact Kd.R_nil _ _ _ _ _ | exact Kd.N_nil _ _ _ _ _ | exact Kd.V_nil _ _ _ _ _ | exact Kd.Q_nil _ _ _ _ _ | exact Kd.S_nil _ _ _ _ _⟩, ⟨by refine bk ?_; exact BK825.out⟩, ⟨(bB1 GE825.out)⟩⟩
 case round =>
  clear H'
  (try clear p2)
  obtain ⟨x3_1, x4_1, rfl, HA, HK1, HO_3, BK825, HB⟩ := hrel
  cases gk with
  | zero => exact absurd HA.out (by simp [qf44.l0])
  | succ k1 =>
   have H := HA.out
   clear HA
   simp only [qf44.l0] at H
   by_cases c3 : x4_1 < (l0_1.length : Int)
   ·rw [if_pos c3] at H
    have c3b0 : decide (x4_1 < (l0_1.length : Int)) = true := decide_eq_true c3
    clear c3
    by_cases c4 : 0 ≤ x4_1
    ·rw [if_pos c4] at H
     have c4b0 : decide (0 ≤ x4_1) = true := decide_eq_true c4
     clear c4
     replace H := Option.bind_eq_some_iff.mp H
     obtain ⟨t827, A50, H⟩ := H
     replace H : (qf44.l0 k1 t827 (wrap64 (x4_1 + 1)) a0_0 l0_1) = some r := H
     have A5 := Aside0.mk A50
     clear A50
     have H' := Aside0.mk H
     clear H
     have hcz6_0 : wr.cell? ⟨gb825, 0, none⟩ = some (.string a0_0) := (blk_cell BK825.out 0).trans rfl
     have hcz6_1 : wr.cell? ⟨gb825, 1, none⟩ = some (.slice A0_1 l0_1.length c0_1) := (blk_cell BK825.out 1).trans rfl
     have hfz6_0 := blk_frozen BK825.out 0
     have hfz6_1 := blk_frozen BK825.out 1
     have p826 : 0 ≤ (x4_1 : Int) := of_decide_eq_true (by first | (with_reducible assumption) | assumption)
     have q826 : x4_1 < (l0_1.length : Int) := of_decide_eq_true (by first | (with_reducible assumption) | assumption)
     obtain ⟨ad826, e826, hx826_0, hx826_1, hx826_2, hx826_3⟩ := at_T92 HR0_1.out x4_1 p826 q826
     cases e826
     replace hx826_0 := mvc HB.out hx826_0
     replace hx826_1 := mvc HB.out hx826_1
     replace hx826_2 := mvc HB.out hx826_2
     replace hx826_3 := mvc HB.out hx826_3
     replace p826 := eq_true p826
     replace q826 := eq_true q826
     obtain ⟨Ao7, co7, eo7⟩ := Kd.R_slice HO_3.out
     subst eo7
     go_wp2_with (first | ((with_reducible refine gate_callee (f := 77) rfl ?_); refine goesL_ (some 19) rfl rfl Tryz.func77 (by kernel_rfl) rfl #[.slice Ao7 x3_1.length co7, .string ((rd_T92 l0_1 x4_1).f0)] rfl aG ?_; (with_reducible refine (qf77.calls k1 (fun k_ => some k_ = (.slice Ao7 x3_1.length co7 : Value).ownBlock) (.slice Ao7 x3_1.length co7) x3_1 ((rd_T92 l0_1 x4_1).f0) t827 w _ ?side1 ?side2 A5.out).mono ?_); (case side1 => repeat (first | (with_reducible first | exact HB.out | apply below_alloc | apply pw_below_drewN | apply below_drew1 | refine below_set ?_ GE825.out) | exact HB.out)); (case side2 => exact Kd.R_tight rfl HO_3.out); rintro e w8 ⟨v828, rfl, ho0, hb, hkp⟩; refine ⟨_, rfl, ?_⟩; have n0_ := Aside0.mk (blk_kept BK825.out hkp (fun hs_ => (fun e_ => (Kd.R_ne HO_3.out BK825.out (by decide)) e_) hs_)); have n1_ := Aside0.mk (Kd.R_mono (ok' := fun k_ => True) ho0 (fun k_ hk_ => trivial)); have n2_ := Aside0.mk (hb); clear BK825; clear HB; clear HO_3; have BK825 := n0_; have HO829 := n1_; have HB := n2_; clear n0_ n1_ n2_; (try clear hb); (try clear hkp); (try clear ho0)))
     go_roundg k1
     case measure => have := HK1.out; omega
     case rel => exact ⟨(t827), (wrap64 (x4_1 + 1)), (by first | rfl | (simp; done) | (simp [*]; done)), H', ⟨by have := HK1.out; omega⟩, ⟨by (with_reducible repeat (first | apply Kd.R_alloc | apply Kd.R_drewN | apply Kd.R_drew)); exact HO829.out⟩, ⟨by refine bk ?_; exact BK825.out⟩, ⟨(bB1 GE825.out)⟩⟩
    ·rw [if_neg c4] at H
     exact absurd H (by simp)
   ·rw [if_neg c3] at H
    have c3b0 : decide (x4_1 < (l0_1.length : Int)) = false := decide_eq_false c3
    clear c3
    obtain rfl := Option.some.inj H
    have hcz9_0 : wr.cell? ⟨gb825, 0, none⟩ = some (.string a0_0) := (blk_cell BK825.out 0).trans rfl
    have hcz9_1 : wr.cell? ⟨gb825, 1, none⟩ = some (.slice A0_1 l0_1.length c0_1) := (blk_cell BK825.out 1).trans rfl
    have hfz9_0 := blk_frozen BK825.out 0
    have hfz9_1 := blk_frozen BK825.out 1
    go_wp2
    go_ret
    exact ⟨_, eW, by (with_reducible repeat (first | apply Kd.R_alloc | apply Kd.R_drewN | apply Kd.R_drew)); exact HO_3.out, (bB1 GE825.out)⟩
def qf107.l0 : Nat → List ByteArray → List ByteArray → Int → Option (Bool)
 | 0, _, _, _ => none
 | k + 1, x0, x1, x5 => if x5 < (x0.length : Int) then (if 0 ≤ x5 then (if x5 < (x1.length : Int) then (if (rdOf ByteArray.empty x0 x5).toList = (rdOf ByteArray.empty x1 x5).toList then (qf107.l0 k x0 x1 (wrap64 (x5 + 1))) else (some false)) else (none)) else (none)) else (some true)
def qf107.f (k : Nat) (l0 : List ByteArray) (l1 : List ByteArray) : Option (Bool) := if (l0.length : Int) = (l1.length : Int) then (qf107.l0 k l0 l1 0) else (some false)
set_option maxHeartbeats 8000000 in
set_option maxRecDepth 100000 in
theorem qf107.calls (k : Nat) (A0 : Option Addr) (c0 : Nat) (l0 : List ByteArray) (A1 : Option Addr) (c1 : Nat) (l1 : List ByteArray) (r : Bool) (w : World) (hr0 : Kd.C Kd.string w A0 l0.length l0) (hc0 : l0.length ≤ c0) (hr1 : Kd.C Kd.string w A1 l1.length l1) (hc1 : l1.length ≤ c1) (h : qf107.f k l0 l1 = some r) :
  Calls Tryz.prog 107 #[.slice A0 l0.length c0, .slice A1 l1.length c1] w fun e w' => e = .returned (.bool r) ∧ Drawn0 w w' := by
 have HR0 := Aside0.mk hr0
 have HC0 := Aside0.mk hc0
 clear hr0 hc0
 have HR1 := Aside0.mk hr1
 have HC1 := Aside0.mk hc1
 clear hr1 hc1
 have H : (if (l0.length : Int) = (l1.length : Int) then (qf107.l0 k l0 l1 0) else (some false)) = some r := h
 clear h
 by_cases c3 : (l0.length : Int) = (l1.length : Int)
 ·rw [if_pos c3] at H
  have c3b0 : ((l0.length : Int) == (l1.length : Int)) = true := beq_iff_eq.mpr c3
  have c3b1 : ((l0.length : Int) != (l1.length : Int)) = false := bne_eq_false_iff_eq.mpr c3
  have c3b2 : (l0.length == l1.length) = true := by first | simpa using c3 | (simp at c3 ⊢; omega)
  clear c3
  have H' := Aside0.mk H
  clear H
  go_enter Tryz.func107, Tryz.ntmps107
  go_wp2
  repeat (go_quiet (fail); try go_wp2)
  go_loopg [5] k (fun kq v5 w' => ∃ (x5_1 : Int), v5 = .int .i64 x5_1 ∧ Aside0 (qf107.l0 kq l0 l1 x5_1 = some r) ∧ Aside0 (kq ≤ k) ∧ Drawn0 w w')
  case atStart => exact ⟨(0), (by first | rfl | (simp; done) | (simp [*]; done)), H', ⟨Nat.le_refl _⟩, by repeat (first | exact Drawn0.refl _ | apply Drawn0.step)⟩
  case round =>
   clear H'
   (try clear c1); (try clear p2); (try clear c3); (try clear c3b0); (try clear c3b1); (try clear c3b2)
   obtain ⟨x5_1, rfl, HA, HK1, ⟨m1, rfl⟩⟩ := hrel
   cases gk with
   | zero => exact absurd HA.out (by simp [qf107.l0])
   | succ k1 =>
    have H := HA.out
    clear HA
    simp only [qf107.l0] at H
    by_cases c4 : x5_1 < (l0.length : Int)
    ·rw [if_pos c4] at H
     have c4b0 : decide (x5_1 < (l0.length : Int)) = true := decide_eq_true c4
     clear c4
     by_cases c5 : 0 ≤ x5_1
     ·rw [if_pos c5] at H
      have c5b0 : decide (0 ≤ x5_1) = true := decide_eq_true c5
      clear c5
      by_cases c6 : x5_1 < (l1.length : Int)
      ·rw [if_pos c6] at H
       have c6b0 : decide (x5_1 < (l1.length : Int)) = true := decide_eq_true c6
       clear c6
       by_cases c7 : (rdOf ByteArray.empty l0 x5_1).toList = (rdOf ByteArray.empty l1 x5_1).toList
       ·rw [if_pos c7] at H
        have c7b0 : ((rdOf ByteArray.empty l0 x5_1).toList == (rdOf ByteArray.empty l1 x5_1).toList) = true := beq_iff_eq.mpr c7
        have c7b1 : ((rdOf ByteArray.empty l0 x5_1).toList != (rdOf ByteArray.empty l1 x5_1).toList) = false := bne_eq_false_iff_eq.mpr c7
        clear c7
        have H' := Aside0.mk H
        clear H
        have p886 : 0 ≤ (x5_1 : Int) := of_decide_eq_true (by first | (with_reducible assumption) | assumption)
        have q886 : x5_1 < (l0.length : Int) := of_decide_eq_true (by first | (with_reducible assumption) | assumption)
        obtain ⟨ad886, e886, hx886_0⟩ := Kd.at_string HR0.out x5_1 p886 q886
        cases e886
        replace p886 := eq_true p886
        replace q886 := eq_true q886
        have p887 : 0 ≤ (x5_1 : Int) := of_decide_eq_true (by first | (with_reducible assumption) | assumption)
        have q887 : x5_1 < (l1.length : Int) := of_decide_eq_true (by first | (with_reducible assumption) | assumption)
        obtain ⟨ad887, e887, hx887_0⟩ := Kd.at_string HR1.out x5_1 p887 q887
        cases e887
        replace p887 := eq_true p887
        replace q887 := eq_true q887
        go_wp2
        repeat (go_quiet (fail); try go_wp2)
        go_roundg k1
        case measure => have := HK1.out; omega
        case rel => exact ⟨(wrap64 (x5_1 + 1)), (by first | rfl | (simp; done) | (simp [*]; done)), H', ⟨by have := HK1.out; omega⟩, by repeat (first | exact Drawn0.refl _ | apply Drawn0.step)⟩
       ·rw [if_neg c7] at H
        have c7b0 : ((rdOf ByteArray.empty l0 x5_1).toList == (rdOf ByteArray.empty l1 x5_1).toList) = false := beq_eq_false_iff_ne.mpr c7
        have c7b1 : ((rdOf ByteArray.empty l0 x5_1).toList != (rdOf ByteArray.empty l1 x5_1).toList) = true := bne_iff_ne.mpr c7
        obtain rfl := Option.some.inj H
        have p886 : 0 ≤ (x5_1 : Int) := of_decide_eq_true (by first | (with_reducible assumption) | assumption)
        have q886 : x5_1 < (l0.length : Int) := of_decide_eq_true (by first | (with_reducible assumption) | assumption)
        obtain ⟨ad886, e886, hx886_0⟩ := Kd.at_string HR0.out x5_1 p886 q886
        cases e886
        replace p886 := eq_true p886
        replace q886 := eq_true q886
        have p887 : 0 ≤ (x5_1 : Int) := of_decide_eq_true (by first | (with_reducible assumption) | assumption)
        have q887 : x5_1 < (l1.length : Int) := of_decide_eq_true (by first | (with_reducible assumption) | assumption)
        obtain ⟨ad887, e887, hx887_0⟩ := Kd.at_string HR1.out x5_1 p887 q887
        cases e887
        replace p887 := eq_true p887
        replace q887 := eq_true q887
        go_wp2
        repeat (go_quiet (fail); try go_wp2)
        go_ret
        exact drz
      ·rw [if_neg c6] at H
       exact absurd H (by simp)
     ·rw [if_neg c5] at H
      exact absurd H (by simp)
    ·rw [if_neg c4] at H
     have c4b0 : decide (x5_1 < (l0.length : Int)) = false := decide_eq_false c4
     clear c4
     obtain rfl := Option.some.inj H
     go_wp2
     repeat (go_quiet (fail); try go_wp2)
     go_ret
     exact drz
 ·rw [if_neg c3] at H
  have c3b0 : ((l0.length : Int) == (l1.length : Int)) = false := beq_eq_false_iff_ne.mpr c3
  have c3b1 : ((l0.length : Int) != (l1.length : Int)) = true := bne_iff_ne.mpr c3
  have c3b2 : (l0.length == l1.length) = false := by first | simpa using c3 | (simp at c3 ⊢; omega)
  obtain rfl := Option.some.inj H
  go_enter Tryz.func107, Tryz.ntmps107
  go_wp2
  repeat (go_quiet (fail); try go_wp2)
  go_ret
  exact drz
end Go.Proofs.YtghommaokdhjmaaGreat.P
/- The references of the safe formulas' small parts: among, All, Texts, With, an atom's variables, begin: what they answer. -/
namespace Go.Proofs.YtghommaokdhjmaaGreat.Sat
open Go.RowKit Go.Lib Go.Sort Go.Proofs.SymP Go.Proofs.YtghommaokdhjmaaGreatW.PrintWords P FactC IRow Frm SpecM SpecB PSat PSpec CmpF BothB SortStr Str
theorem rdS_get {l : List ByteArray} {i : Nat} (hi : i < l.length) : rdOf ByteArray.empty l (i : Int) = l[i] := by
 unfold rdOf
 rw [Int.toNat_natCast, List.getD_eq_getElem?_getD, List.getElem?_eq_getElem hi]; rfl
theorem w64' {i n : Nat} (hn : n ≤ 1000000) (hi : i < n) : wrap64 ((i : Int) + 1) = ((i + 1 : Nat) : Int) := by unfold wrap64; omega
theorem among_loop (l : List ByteArray) (s : ByteArray) (hl : l.length ≤ 1000000) : ∀ (m i : Nat), i + m = l.length → Ev (fun k => qf74.l0 k l s i) ((l.drop i).any fun y => decide (s = y)) := by
 intro m
 induction m with
 | zero =>
  intro i h
  refine Ev.step (fun k => by rw [qf74.l0, if_neg (by omega)]) ?_
  rw [List.drop_eq_nil_of_le (by omega)]
  exact Ev.now _
 | succ m ih =>
  intro i h
  have hi : i < l.length := by omega
  refine Ev.step (fun k => by rw [qf74.l0, if_pos (by omega), if_pos (by omega), rdS_get hi, w64' hl hi]) ?_
  rw [List.drop_eq_getElem_cons hi, List.any_cons]
  by_cases e : s = l[i]
  ·simp only [if_pos ((FactC.tl_iff _ _).2 e.symm), decide_eq_true e, Bool.true_or]; exact Ev.now _
  ·simp only [if_neg (fun h => e ((FactC.tl_iff _ _).1 h).symm), decide_eq_false e, Bool.false_or]; exact ih (i + 1) (by omega)
theorem all_loop (l m2 : List ByteArray) (hl : l.length ≤ 1000000) (hm : m2.length ≤ 1000000) : ∀ (m i : Nat), i + m = l.length → Ev (fun k => qf42.l0 k l m2 i) ((l.drop i).all fun s => m2.any fun y => decide (s = y)) := by
 intro m
 induction m with
 | zero =>
  intro i h
  refine Ev.step (fun k => by rw [qf42.l0, if_neg (by omega)]) ?_
  rw [List.drop_eq_nil_of_le (by omega)]
  exact Ev.now _
 | succ m ih =>
  intro i h
  have hi : i < l.length := by omega
  refine Ev.step (fun k => by rw [qf42.l0, if_pos (by omega), if_pos (by omega), rdS_get hi, w64' hl hi]) ?_
  rw [List.drop_eq_getElem_cons hi, List.all_cons]
  refine Ev.bind (among_loop m2 l[i] hm m2.length 0 (by omega)) ?_
  rw [List.drop_zero]
  cases m2.any fun y => decide (l[i] = y)
  ·simp only [Bool.false_eq_true, if_false, Bool.false_and]; exact Ev.now _
  ·simp only [if_true, Bool.true_and]; exact ih (i + 1) (by omega)
theorem texts_loop (l m2 : List ByteArray) (hl : l.length ≤ 1000000) (he : l.length = m2.length) : ∀ (m i : Nat), i + m = l.length → Ev (fun k => qf107.l0 k l m2 i) (decide (l.drop i = m2.drop i)) := by
 intro m
 induction m with
 | zero =>
  intro i h
  refine Ev.step (fun k => by rw [qf107.l0, if_neg (by omega)]) ?_
  rw [List.drop_eq_nil_of_le (by omega), List.drop_eq_nil_of_le (by omega)]
  exact Ev.now _
 | succ m ih =>
  intro i h
  have hi : i < l.length := by omega
  have hj : i < m2.length := by omega
  refine Ev.step (fun k => by rw [qf107.l0, if_pos (by omega), if_pos (by omega), if_pos (by omega), rdS_get hi, rdS_get hj, w64' hl hi]) ?_
  rw [List.drop_eq_getElem_cons hi, List.drop_eq_getElem_cons hj]
  by_cases e : l[i] = m2[i]
  ·simp only [if_pos ((FactC.tl_iff _ _).2 e), e, List.cons.injEq, true_and]; exact ih (i + 1) (by omega)
  ·simp only [if_neg (fun h => e ((FactC.tl_iff _ _).1 h)), List.cons.injEq, e, false_and, decide_false]; exact Ev.now _
theorem with_loop (l : List ByteArray) (s : ByteArray) (hl : l.length ≤ 1000000) : ∀ (m i : Nat), i + m = l.length → Ev (fun k => qf77.l0 k l s i) (if ((l.drop i).any fun y => decide (s = y)) = true then l else l ++ [s]) := by
 intro m
 induction m with
 | zero =>
  intro i h
  refine Ev.step (fun k => by rw [qf77.l0, if_neg (by omega), if_pos (by omega)]) ?_
  rw [List.drop_eq_nil_of_le (by omega)]
  exact Ev.now _
 | succ m ih =>
  intro i h
  have hi : i < l.length := by omega
  refine Ev.step (fun k => by rw [qf77.l0, if_pos (by omega), if_pos (by omega), rdS_get hi, w64' hl hi]) ?_
  rw [List.drop_eq_getElem_cons hi, List.any_cons]
  by_cases e : s = l[i]
  ·simp only [if_pos ((FactC.tl_iff _ _).2 e.symm), decide_eq_true e, Bool.true_or, if_true]; exact Ev.now _
  ·simp only [if_neg (fun h => e ((FactC.tl_iff _ _).1 h).symm), decide_eq_false e, Bool.false_or]; exact ih (i + 1) (by omega)
theorem rvars_loop (ts : List S92) (a : ByteArray) (hl : ts.length ≤ 1000000) : ∀ (m i : Nat), i + m = ts.length → ∀ acc : List ByteArray, acc.length ≤ i → Ev (fun k => qf44.l0 k acc i a ts) (SpecM.varsL acc (ts.drop i)) := by
 intro m
 induction m with
 | zero =>
  intro i h acc _
  refine Ev.step (fun k => by rw [qf44.l0, if_neg (by omega)]) ?_
  rw [List.drop_eq_nil_of_le (by omega), SpecM.varsL]
  exact Ev.now _
 | succ m ih =>
  intro i h acc ha
  have hi : i < ts.length := by omega
  refine Ev.step (fun k => by rw [qf44.l0, if_pos (by omega), if_pos (by omega), rdT_get hi, w64' hl hi]) ?_
  rw [List.drop_eq_getElem_cons hi, SpecM.varsL]
  by_cases hc : con ts[i]
  ·have hz := (con_size ts[i]).1 hc
   rw [if_pos hc]
   refine Ev.bind (a := acc) ?_ (ih (i + 1) (by omega) acc (by omega))
   unfold qf77.f
   simp only [if_pos (show (ts[i].f0.size : Int) = 0 by omega)]
   exact Ev.now _
  ·have hz : ts[i].f0.size ≠ 0 := fun h => hc ((con_size ts[i]).2 h)
   rw [if_neg hc]
   have hw := with_loop acc ts[i].f0 (by omega) acc.length 0 (by omega)
   rw [List.drop_zero] at hw
   have hw2 : Ev (fun k => qf77.f k acc ts[i].f0) (if (acc.any fun y => decide (ts[i].f0 = y)) = true then acc else acc ++ [ts[i].f0]) := by
    unfold qf77.f
    simp only [if_neg (show ¬ (ts[i].f0.size : Int) = 0 by omega)]
    exact hw
   refine Ev.bind hw2 ?_
   by_cases hv : (acc.any fun y => decide (ts[i].f0 = y)) = true
   ·rw [if_pos hv, if_pos hv]; exact ih (i + 1) (by omega) acc (by omega)
   ·rw [if_neg hv, if_neg hv]; exact ih (i + 1) (by omega) _ (by simp; omega)
theorem begin_ev {l : List S62} {fr : List Int} (h : Right l fr) : ∀ q : Nat, q < l.length → Ev (fun k => qf75.l0 k l (q : Int)) (fr.getD q 0) := by
 intro q
 induction q using Nat.strongRecOn with
 | ind q ih =>
  intro hq
  have hr := h.rel q hq
  obtain ⟨k0, k1, k2⟩ := @arms_kind l[q].f0
  have hok := h.ok
  have hlen := h.len
  refine Ev.step (fun k => by rw [qf75.l0, if_pos (by omega), if_pos (by omega), rd62_get hq]) ?_
  rcases hr with ⟨h0, h1⟩ | ⟨h0, h1, h2, h3⟩ | ⟨h0, h1, h2, h3, h4, h5⟩
  ·rw [h1]
   simp only [if_pos (k0 h0)]
   exact Ev.now _
  ·simp only [if_neg (show ¬ l[q].f0 = 1 by have := k1 h0; omega)]
   rw [h3, h2, show (q : Int) - 1 = ((q - 1 : Nat) : Int) by omega]
   exact ih (q - 1) (by omega) (by omega)
  ·simp only [if_neg (show ¬ l[q].f0 = 1 by have := k2 h0; unfold two at this; omega)]
   have h6 := hok (q - 1) (by omega)
   obtain ⟨a, ha⟩ : ∃ a : Nat, l[q].f2 = (a : Int) := ⟨l[q].f2.toNat, by omega⟩
   rw [h5, ha, Int.toNat_natCast]
   exact ih a (by omega) (by omega)
section
variable {W : World} {A B : Option Addr} {c d : Nat}
theorem cAll {l m : List ByteArray} (hl : l.length ≤ 1000000) (hm : m.length ≤ 1000000) (h1 : Kd.C Kd.string W A l.length l) (h2 : l.length ≤ c) (h3 : Kd.C Kd.string W B m.length m) (h4 : m.length ≤ d) : Calls Tryz.prog 42 #[.slice A l.length c, .slice B m.length d] W fun e w' => e = .returned (.bool (l.all fun s => m.any fun y => decide (s = y))) ∧ Go.RowKit.Below W.heap.size W w' := by
 obtain ⟨k, hk⟩ := (all_loop l m hl hm l.length 0 (by omega)).rounds
 rw [List.drop_zero] at hk
 exact (qf42.calls k A c l B d m _ W h1 h2 h3 h4 hk).mono fun e w' h => ⟨h.1, h.2.below⟩
theorem cTexts {l m : List ByteArray} (hl : l.length ≤ 1000000) (h1 : Kd.C Kd.string W A l.length l) (h2 : l.length ≤ c) (h3 : Kd.C Kd.string W B m.length m) (h4 : m.length ≤ d) : Calls Tryz.prog 107 #[.slice A l.length c, .slice B m.length d] W fun e w' => e = .returned (.bool (decide (l = m))) ∧ Go.RowKit.Below W.heap.size W w' := by
 have he : Ev (fun k => qf107.f k l m) (decide (l = m)) := by
  unfold qf107.f
  by_cases h : l.length = m.length
  ·simp only [if_pos (show (l.length : Int) = m.length by omega)]
   have := texts_loop l m hl h l.length 0 (by omega)
   rwa [List.drop_zero, List.drop_zero] at this
  ·simp only [if_neg (show ¬ (l.length : Int) = m.length by omega)]
   rw [decide_eq_false (fun e => h (by rw [e]))]
   exact Ev.now _
 obtain ⟨k, hk⟩ := he.rounds
 exact (qf107.calls k A c l B d m _ W h1 h2 h3 h4 hk).mono fun e w' h => ⟨h.1, h.2.below⟩
theorem cVars01 (a : ByteArray) {ts : List S92} (hl : ts.length ≤ 1000000) (h1 : Kd.C k92 W A ts.length ts) (h2 : ts.length ≤ c) : Calls Tryz.prog 44 #[.agg #[.string a, .slice A ts.length c]] W fun e w' => ∃ v, e = .returned v ∧ SRow w' W.heap.size v (SpecM.varsL [] ts) ∧ Go.RowKit.Below W.heap.size W w' := by
 obtain ⟨k, hk⟩ := (rvars_loop ts a hl ts.length 0 (by omega) [] (by simp)).rounds
 rw [List.drop_zero] at hk
 refine (qf44.calls k a A c ts _ W h1 h2 hk).mono ?_
 rintro e w' ⟨v, rfl, hR, hb⟩
 exact ⟨v, rfl, SRow.of hR, hb⟩
theorem cBegin {n : Nat} {l : List S62} {fr : List Int} (h : NRow W A n c l) (hr : Right l fr) {q : Nat} (hq : q < n) : Calls Tryz.prog 75 #[.slice A n c, .int .i64 (q : Int)] W fun e w' => e = .returned (.int .i64 (fr.getD q 0)) ∧ Go.RowKit.Below W.heap.size W w' := by
 obtain rfl := h.len
 obtain ⟨k, hk⟩ := (begin_ev hr q hq).rounds
 exact (qf75.calls k A c l q _ W h.C h.cap hk).mono fun e w' h => ⟨h.1, h.2.below⟩
end
end Go.Proofs.YtghommaokdhjmaaGreat.Sat
/- The reference's sorted: the members of a row of strings, each once, rising. -/
namespace Go.Proofs.YtghommaokdhjmaaGreat.Sat
open Go.RowKit Go.Lib Go.Sort Go.Proofs.SymP Go.Proofs.YtghommaokdhjmaaGreatW.PrintWords P FactC IRow Frm SpecM SpecB PSat PSpec CmpF BothB SortStr Str
structure SC (W : World) (U : Option Addr) (n c : Nat) (xs : List ByteArray) : Prop where
 len : xs.length = n
 cap : n ≤ c
 cells : 0 < n → ∃ g, U = some ⟨g, 0, none⟩ ∧ ∀ j (hj : j < xs.length), W.cell? ⟨g, j, none⟩ = some (.string xs[j])
theorem SC.below {W W' : World} {U : Option Addr} {n c : Nat} {xs : List ByteArray} (h : SC W U n c xs) (hb : Go.RowKit.Below W.heap.size W W') : SC W' U n c xs := ⟨h.len, h.cap, fun hm => by
 obtain ⟨g, e, hc⟩ := h.cells hm
 exact ⟨g, e, fun j hj => (hb.cell (World.block_lt_of_cell? _ _ (hc j hj))).trans (hc j hj)⟩⟩
theorem SC.of {W : World} {b : Nat} {U : Option Addr} {n c : Nat} {xs : List ByteArray} (h : SRow W b (.slice U n c) xs) (hn : xs.length = n) : SC W U n c xs := by
 have := SRd.of h.enc
 refine ⟨hn, this.cap, fun hm => ?_⟩
 obtain ⟨g, e, hc⟩ := this.cells hm
 refine ⟨g, e, fun j hj => ?_⟩
 have := hc j (by simpa using hj)
 simpa using this
theorem SC.C {W : World} {U : Option Addr} {n c : Nat} {xs : List ByteArray} (h : SC W U n c xs) (hm : n ≤ 1000000) : Kd.C Kd.string W U xs.length xs := by
 refine ⟨rfl, by have := h.len; omega, fun hp => ?_⟩
 obtain ⟨g, e, hc⟩ := h.cells (by have := h.len; omega)
 refine ⟨_, e, fun j p hj => ⟨[.string p], rfl, rfl, fun i u hu => ?_⟩⟩
 have hj2 := (List.getElem?_eq_some_iff.1 hj)
 have hi : i = 0 := by have := (List.getElem?_eq_some_iff.1 hu).1; simp at this; omega
 subst hi
 rw [List.getElem?_cons_zero] at hu
 injection hu with hu
 have he : Addr.add ⟨g, 0, none⟩ (j * 1 + 0) = ⟨g, j, none⟩ := by unfold Addr.add; by_cases h0 : j = 0 <;> simp [h0]
 rw [← hu, ← hj2.2]
 show W.cell? (Addr.add ⟨g, 0, none⟩ (j * 1 + 0)) = _
 rw [he]
 exact hc j hj2.1
theorem appendC {W : World} (b : Nat) (O A : Option Addr) (m co k c q : Nat) (hq : q = m + k) (xs ys : List ByteArray) (h : SRow W b (.slice O m co) xs) (hm : xs.length = m) (hy : Kd.C Kd.string W A k ys) (hb : b ≤ W.heap.size) (hl : m + k ≤ 1000000) :
  ∃ A' c' w', (∀ ty, (Builtin.append_ #[70, 70] ty #[.slice O m co, .slice A k c]).run Tryz.prog W = .ok (.slice A' q c') w') ∧ SRow w' b (.slice A' q c') (xs ++ ys) ∧ Go.RowKit.Below b W w' := by
 subst hq hm
 have hyl : ys.length = k := hy.1
 have hin := info9
 rcases hinf : Tryz.prog.info? 9 with _ | i
 ·rw [hinf] at hin; cases hin
 rw [hinf] at hin
 simp only [Option.map_some, Option.some.injEq, Prod.mk.injEq] at hin
 obtain ⟨hz, hsz, hby⟩ := hin
 have ht : Tryz.prog.underlying 70 = some (.slice 9) := Tryz.underlying70
 rcases A with _ | ad
 ·have h0 : k = 0 := by
   rcases Nat.eq_zero_or_pos k with h0 | h0
   ·exact h0
   ·obtain ⟨ad, e, _⟩ := hy.2.2 h0
    cases e
  subst h0
  obtain rfl : ys = [] := List.eq_nil_of_length_eq_zero hyl
  refine ⟨O, co, W, fun ty => ?_, by rw [List.append_nil]; exact h, Go.RowKit.Below.refl _ _⟩
  rcases h.2 with ⟨e, hn⟩ | ⟨g, cap, cur, e, _, _, hnc, _⟩
  ·obtain ⟨e1, e2, e3⟩ := Value.slice.inj e
   rw [e1, e3]
   simp [Builtin.append_, run_underlying ht, sizeOf, typeInfo, hinf, Builtin.lenOf, Builtin.firstCells, hn]
  ·obtain ⟨e1, e2, e3⟩ := Value.slice.inj e
   rw [e1, e3]
   simp [Builtin.append_, run_underlying ht, sizeOf, typeInfo, hinf, Builtin.lenOf, Builtin.firstCells, hnc, storeCells]
 ·obtain ⟨inner, hr, hc⟩ := ReadsRow.inner_ hy
  have hi : inner = ys.map Value.string := by
   refine List.ext_getElem? (fun j => ?_)
   rcases Nat.lt_or_ge j ys.length with hj | hj
   ·have := hr.2 j ys[j] (List.getElem?_eq_getElem hj)
    have hh : (inner.drop (j * 1)).take 1 = [.string ys[j]] := this
    rw [List.getElem?_map, List.getElem?_eq_getElem hj]
    have h2 : ((inner.drop (j * 1)).take 1)[0]? = some (.string ys[j]) := by rw [hh]; rfl
    rw [List.getElem?_take, if_pos (by omega), List.getElem?_drop] at h2
    simpa using h2
   ·rw [List.getElem?_eq_none (by have := hr.1; simp [Kd.string, Kd.scalar] at this; omega), List.getElem?_eq_none (by simpa using hj)]
  subst hi
  obtain ⟨u', w', hrun, ho, hg, _, _⟩ := run_append_own_at (P := Tryz.prog) W b 70 0 9 i _ 1 16 ht hinf hz hsz hby (by rfl) (by decide) (.slice O xs.length co) xs.length (xs.map Value.string) h ad k c (ys.map Value.string) (by simp [hyl]) hc (fun v hv => by
    obtain ⟨x, _, rfl⟩ := List.mem_map.1 hv; rfl) (by unfold maxLen; omega) (by omega) hb
  obtain ⟨A', c', rfl⟩ := own_slice ho
  refine ⟨A', c', w', fun ty => hrun, ?_, (Go.RowKit.Below.refl b W).grown hg hb (fun k hk => (h.lt k hk).1)⟩
  unfold SRow
  rw [List.length_append, List.map_append, hyl]
  exact ho
def upS (l : List ByteArray) : Prop := l.Pairwise fun x y => cmpS x y < 0
theorem ins_up {acc : List ByteArray} {x : ByteArray} {k : Nat} (h : upS acc) (hk : k ≤ acc.length) (h1 : ∀ j (hj : j < acc.length), k ≤ j → 0 < cmpS acc[j] x) (h2 : ∀ j (hj : j < acc.length), j + 1 = k → cmpS acc[j] x < 0) : upS (acc.take k ++ [x] ++ acc.drop k) := by
 have ha : ∀ a ∈ acc.take k, cmpS a x < 0 := by
  intro a ha
  obtain ⟨j, hj, rfl⟩ := List.getElem_of_mem ha
  rw [List.getElem_take]
  simp at hj
  by_cases e : j + 1 = k
  ·exact h2 j (by omega) e
  ·have := List.pairwise_iff_getElem.1 h j (k - 1) (by omega) (by omega) (by omega)
   exact Fct.ordS.lt this (Int.le_of_lt (h2 (k - 1) (by omega) (by omega)))
 have hd : ∀ d ∈ acc.drop k, cmpS x d < 0 := by
  intro d hd
  obtain ⟨j, hj, rfl⟩ := List.getElem_of_mem hd
  rw [List.getElem_drop]
  simp at hj
  have := h1 (k + j) (by omega) (by omega)
  have h3 := cmpS_swap acc[k + j] x
  omega
 unfold upS
 rw [List.append_assoc, List.pairwise_append]
 refine ⟨List.Pairwise.sublist (List.take_sublist _ _) h, ?_, fun a ha1 d hd1 => ?_⟩
 ·rw [List.singleton_append, List.pairwise_cons]
  exact ⟨hd, List.Pairwise.sublist (List.drop_sublist _ _) h⟩
 ·rcases List.mem_cons.1 hd1 with rfl | hd1
  ·exact ha a ha1
  ·exact Fct.ordS.lt (ha a ha1) (Int.le_of_lt (hd d hd1))
theorem one_C (W : World) (x : ByteArray) : Kd.C Kd.string (W.alloc (.cells #[.string x] 9)) (some ⟨W.heap.size, 0, none⟩) 1 [x] := ⟨rfl, by omega, fun _ => ⟨_, rfl, fun j p hj => ⟨[.string p], rfl, rfl, fun i u hu => by
 have hj0 : j = 0 := by have := (List.getElem?_eq_some_iff.1 hj).1; simp at this; omega
 have hi : i = 0 := by have := (List.getElem?_eq_some_iff.1 hu).1; simp at this; omega
 subst hj0 hi
 rw [List.getElem?_cons_zero] at hj hu
 injection hj with hj
 injection hu with hu
 rw [← hu, ← hj]
 show (W.alloc (.cells #[.string x] 9)).cell? (Addr.add ⟨W.heap.size, 0, none⟩ (0 * 1 + 0)) = _
 simp [Addr.add]⟩⟩⟩
theorem ins_mem {acc : List ByteArray} {x y : ByteArray} {k : Nat} : y ∈ acc.take k ++ [x] ++ acc.drop k ↔ y ∈ acc ∨ y = x := by
 have h : y ∈ acc ↔ y ∈ acc.take k ∨ y ∈ acc.drop k := by rw [← List.mem_append, List.take_append_drop]
 rw [h]
 simp only [List.mem_append, List.mem_singleton]
 constructor
 ·rintro ((a | a) | a)
  ·exact .inl (.inl a)
  ·exact .inr a
  ·exact .inl (.inr a)
 ·rintro ((a | a) | a)
  ·exact .inl (.inl a)
  ·exact .inr a
  ·exact .inl (.inr a)
def sortO (xs : List ByteArray) : List ByteArray := Fct.setO cmpS xs
theorem sortO_mem {xs : List ByteArray} {x : ByteArray} : x ∈ sortO xs ↔ x ∈ xs := Fct.setO_mem Fct.ordS x xs
set_option maxHeartbeats 8000000 in
set_option maxRecDepth 1000000 in
theorem rsorted_calls {w : World} {U : Option Addr} {n c : Nat} {xs : List ByteArray} (h : SC w U n c xs) (hn : n ≤ 100000) (hs : ∀ x ∈ xs, x.size ≤ 1000000) : Calls Tryz.prog 76 #[.slice U n c] w fun e w' => ∃ A' c', e = .returned (.slice A' (sortO xs).length c') ∧ SRow w' w.heap.size (.slice A' (sortO xs).length c') (sortO xs) ∧ Go.RowKit.Below w.heap.size w w' := by
 have mixed : Tryz.prog.follows .mixedOrders = true := by kernel_rfl
 have hlen := h.len
 have hcap := h.cap
 have HR := Aside0.mk h
 have HS := Aside0.mk hs
 have hct : ∀ (A : Option Addr) (m c' j : Nat), j ≤ m → m ≤ c' → ∀ W : World, (Instr.slice 70 (.slice A m c') none (some (.int .i64 (j : Int))) none).run Tryz.prog W = .ok (.slice A j c') W := fun A m c' j h1 h2 W => by
  rcases hinf : Tryz.prog.info? 9 with _ | i
  ·have hin := info9
   rw [hinf] at hin; cases hin
  ·have := cut_to (P := Tryz.prog) 70 9 .i64 Tryz.underlying70 hinf A m c' (j : Int) (by omega) (by omega) h2 W
   simpa using this
 have hcf : ∀ (A : Option Addr) (m c' j : Nat), j ≤ m → ∀ W : World, (Instr.slice 70 (.slice A m c') (some (.int .i64 (j : Int))) none none).run Tryz.prog W = .ok (.slice (if c' = j then A else A.map (·.add (j * 1))) (m - j) (c' - j)) W := fun A m c' j h1 W => by
  have hin := info9
  rcases hinf : Tryz.prog.info? 9 with _ | i
  ·rw [hinf] at hin; cases hin
  ·rw [hinf] at hin
   simp only [Option.map_some, Option.some.injEq, Prod.mk.injEq] at hin
   have := cut_from (P := Tryz.prog) 70 9 .i64 Tryz.underlying70 hinf 1 hin.2.1 A m c' (j : Int) (by omega) (by omega) W
   simpa using this
 have HCT := Aside0.mk hct
 have HCF := Aside0.mk hcf
 clear h hs hct hcf
 go_enter Tryz.func76, Tryz.ntmps76
 go_wp2
 go_loopg [3, 4] n (fun gg s3 s4 wr => ∃ (O : Option Addr) (co m i : Nat), s3 = .slice O m co ∧ s4 = .int .i64 i ∧ i ≤ n ∧ n - i ≤ gg ∧ Aside0 (∃ acc : List ByteArray, acc.length = m ∧ m ≤ i ∧ SRow wr w.heap.size (.slice O m co) acc ∧ Go.RowKit.Below w.heap.size w wr ∧ upS acc ∧ ∀ y, y ∈ acc ↔ y ∈ xs.take i))
 case atStart => exact ⟨none, 0, 0, 0, rfl, rfl, Nat.zero_le _, Nat.le_refl _, ⟨[], rfl, Nat.zero_le _, own_nil _ _ _ _, Go.RowKit.Below.refl _ _, List.Pairwise.nil, fun y => by simp⟩⟩
 case round =>
  obtain ⟨O, co, m, i, rfl, rfl, hi, hg, HI⟩ := hrel
  obtain ⟨acc, hI⟩ := HI.out
  have HI := Aside0.mk hI
  clear hI
  by_cases hlt : i < n
  ·have hltz : (i : Int) < (n : Int) := by omega
   have hiz : (0 : Int) ≤ (i : Int) := by omega
   have hil : i < xs.length := by omega
   have kwi : IntKind.i64.wrap ((i : Int) + 1) = ((i + 1 : Nat) : Int) := by rw [show (i : Int) + 1 = ((i + 1 : Nat) : Int) by omega]; exact kwrap (by omega) (by omega)
   obtain ⟨gU, eU, cU⟩ := (HR.out.below HI.out.2.2.2.1).cells (by omega)
   subst eU
   have x0 := cU i hil
   have HD := Aside0.mk (show xs.take (i + 1) = xs.take i ++ [xs[i]] from List.take_succ_eq_append_getElem hil)
   have HX := Aside0.mk (HS.out xs[i] (List.getElem_mem hil))
   generalize xs[i] = x at *
   clear cU
   have hmi : m ≤ i := HI.out.2.1
   have hmc : m ≤ co := own_le HI.out.2.2.1
   have HQ := Aside0.mk (SC.of HI.out.2.2.1 HI.out.1)
   have HFit : Aside0 (∀ y ∈ acc, y.size ≤ 1000000) := ⟨fun y hy => HS.out y (List.mem_of_mem_take ((HI.out.2.2.2.2.2 y).1 hy))⟩
   have HJ := Aside0.mk (And.intro hlt hil)
   clear hlt hil
   go_wp2
   obtain ⟨wo, hwo⟩ : ∃ wo, wo = wr := ⟨_, rfl⟩
   subst hwo
   go_loopg [5] m (fun gg s5 wi => ∃ k : Nat, s5 = .int .i64 k ∧ k ≤ m ∧ k ≤ gg ∧ Aside0 (Go.RowKit.Below wo.heap.size wo wi ∧ ∀ j (hj : j < acc.length), k ≤ j → 0 < cmpS acc[j] x))
   case atStart => exact ⟨m, rfl, Nat.le_refl _, Nat.le_refl _, ⟨Go.RowKit.Below.refl _ _, fun j hj h => absurd hj (by have := HI.out.1; omega)⟩⟩
   case round =>
    obtain ⟨k, rfl, hkm, hgk, HK0⟩ := hrel
    replace x0 := mvc HK0.out.1 x0
    have HK : Aside0 (∀ j (hj : j < acc.length), k ≤ j → 0 < cmpS acc[j] x) := ⟨HK0.out.2⟩
    have rx := cell_regrown x0
    by_cases h0 : k = 0
    ·have d0 : decide ((0 : Int) < (k : Int)) = false := decide_eq_false (by omega)
     have d1 : decide (0 < k) = false := decide_eq_false (by omega)
     have HP : Aside0 (∀ j (hj : j < acc.length), j + 1 = k → cmpS acc[j] x < 0) := ⟨fun j hj h => by omega⟩
     clear h0
     go_upto_region 6 with fail
     refine wp_region_quiet_below mixed (by kernel_rfl) ?_
     repeat (first | go_big_quiet_step (fail) | quiet_step (fail))
     refine wpQuiet_nil ?_
     intro _ hw'
     obtain ⟨⟨dq, osq⟩, hw''⟩ := hw'
     subst hw''
     have HLq := Aside0.mk (HK0.out.1.trans ((below_regrown wr dq osq).mono HK0.out.1.size))
     replace x0 := rx dq osq
     clear rx
     generalize grow (redrawn wr dq) osq = wk at *
     have rx := cell_regrown x0
     go_upto_region 8 with fail
     refine wp_region_quiet_below mixed (by kernel_rfl) ?_
     repeat (first | go_big_quiet_step (fail) | quiet_step (fail))
     refine wpQuiet_nil ?_
     intro _ hw'
     obtain ⟨⟨dq, osq⟩, hw''⟩ := hw'
     subst hw''
     have HL := Aside0.mk (HLq.out.trans ((below_regrown wk dq osq).mono HLq.out.size))
     replace x0 := rx dq osq
     clear rx HLq
     generalize grow (redrawn wk dq) osq = wj at *
     clear HK0
     go_upto_region 9 with fail
     have hC := (HQ.out.below HL.out).C (by omega)
     have hCt := Kd.C_take hC (show k ≤ acc.length by have := HI.out.1; omega)
     have hCd := Kd.C_drop (m := k) (c := co) hC (by have := HI.out.1; omega) (by have := HI.out.1; omega)
     rw [show (acc.take k).length = k by rw [List.length_take]; have := HI.out.1; omega] at hCt
     rw [show (acc.drop k).length = m - k by rw [List.length_drop]; have := HI.out.1; omega] at hCd
     have cu1 := HCT.out O m co k hkm hmc
     have cu2 := HCF.out O m co k hkm
     obtain ⟨A0, hA0⟩ : ∃ A0, A0 = (if co = k then O else O.map (·.add (k * 1))) := ⟨_, rfl⟩
     obtain ⟨d, hd⟩ : ∃ d, d = m - k := ⟨_, rfl⟩
     obtain ⟨cd, hcd⟩ : ∃ cd, cd = co - k := ⟨_, rfl⟩
     rw [← hA0, ← hd, ← hcd] at cu2
     replace hCd : Kd.C Kd.string wj A0 d (acc.drop k) := by rw [hA0, hd]; exact hCd
     have HCt := Aside0.mk hCt
     have HCd := Aside0.mk hCd
     have HDk := Aside0.mk (show k + 1 + d = m + 1 by omega)
     clear hC hCt hCd hA0 hd hcd
     go_wp2_with (first
      | (at_builtin; obtain ⟨A1, c1, w1, happ, hS, hb⟩ := appendC (W := wj) wj.heap.size none O 0 0 k co k (Nat.zero_add k).symm [] (acc.take k) (own_nil _ _ _ _) rfl HCt.out (Nat.le_refl _) (by omega); refine Lib.wpList_append_run _ (by rfl) (.tmp 46) (.tmp 49) 70 70 (by rfl) (.slice none 0 0) (.slice O k co) (by rfl) (by rfl) (.slice A1 k c1) w1 (happ 70) ?_; have HS1 := Aside0.mk hS; have HL1 := Aside0.mk hb; replace x0 := mvc hb x0; clear hS hb happ)
      | (at_builtin; obtain ⟨A2, c2, w2, happ, hS, hb⟩ := appendC (W := w1.alloc (.cells #[.string x] 9)) wj.heap.size A1 (some ⟨w1.heap.size, 0, none⟩) k c1 1 1 (k + 1) rfl ([] ++ acc.take k) [x] (HS1.out.below ((Go.RowKit.Below.refl _ _).alloc (Nat.le_refl _) _)) (by rw [List.nil_append, List.length_take]; have := HI.out.1; omega) (one_C w1 x) (by have := HL1.out.size; simp; omega) (by omega); refine Lib.wpList_append_run _ (by rfl) (.tmp 51) (.tmp 56) 70 70 (by rfl) (.slice A1 k c1) (.slice (some ⟨w1.heap.size, 0, none⟩) 1 1) (by rfl) (by rfl) (.slice A2 (k + 1) c2) w2 (happ 70) ?_; have HS2 := Aside0.mk hS; have HL2 := Aside0.mk (HL1.out.trans (((Go.RowKit.Below.refl wj.heap.size w1).alloc HL1.out.size _).trans hb)); clear hS hb happ)
      | (at_builtin; obtain ⟨A3, c3, w3, happ, hS, hb⟩ := appendC (W := w2) wj.heap.size A2 A0 (k + 1) c2 d cd (k + 1 + d) rfl ([] ++ acc.take k ++ [x]) (acc.drop k) HS2.out (by rw [List.nil_append, List.length_append, List.length_take]; have := HI.out.1; simp; omega) (Kd.C_below HCd.out HL2.out) HL2.out.size (by have := HDk.out; omega); refine Lib.wpList_append_run _ (by rfl) (.tmp 58) (.tmp 61) 70 70 (by rfl) (.slice A2 (k + 1) c2) (.slice A0 d cd) (by rfl) (by rfl) (.slice A3 (k + 1 + d) c3) w3 (happ 70) ?_; have HS3 := Aside0.mk hS; have HL3 := Aside0.mk (HL2.out.trans hb); clear hS hb happ)
      | fail)
     go_roundg (n - (i + 1))
     case measure => have := HJ.out; omega
     case rel => exact ⟨A3, c3, k + 1 + d, i + 1, rfl, by go_num, by have := HJ.out; omega, Nat.le_refl _, ⟨acc.take k ++ [x] ++ acc.drop k, by have := HDk.out; have := HI.out.1; simp; omega, by have := HDk.out; omega, by have h := own_weaken HS3.out (Nat.le_trans HI.out.2.2.2.1.size HL.out.size); rw [List.nil_append] at h; exact h, HI.out.2.2.2.1.trans ((HL.out.trans (HL3.out.mono HL.out.size)).mono HI.out.2.2.2.1.size), ins_up HI.out.2.2.2.2.1 (by have := HI.out.1; omega) HK.out HP.out, fun y => by rw [HD.out, ins_mem, List.mem_append, List.mem_singleton, ← HI.out.2.2.2.2.2 y]⟩⟩
    ·obtain ⟨p, hp⟩ : ∃ p, p + 1 = k := ⟨k - 1, by omega⟩
     have d0 : decide ((0 : Int) < (k : Int)) = true := decide_eq_true (by omega)
     have d1 : decide (0 < k) = true := decide_eq_true (by omega)
     have kwk : IntKind.i64.wrap ((k : Int) - 1) = (p : Int) := by rw [show (k : Int) - 1 = (p : Int) by omega]; exact kwrap (by omega) (by omega)
     have p0 : (0 : Int) ≤ (p : Int) := by omega
     have p1 : (p : Int) < (m : Int) := by omega
     have hpl : p < acc.length := by have := HI.out.1; omega
     obtain ⟨gO, eO, cO⟩ := (HQ.out.below HK0.out.1).cells (by omega)
     have xp := cO p hpl
     clear cO
     obtain ⟨z, hz⟩ : ∃ z, z = acc[p] := ⟨_, rfl⟩
     rw [← hz] at xp
     have HZ := Aside0.mk hz
     have hzs := HFit.out z (by rw [hz]; exact List.getElem_mem hpl)
     subst eO
     have rp := cell_regrown xp
     have c3 : ∀ d os, Calls Tryz.prog 53 #[.string z, .string x] (grow (redrawn wr d) os) fun e w'' => e = .returned (.int .i64 (cmpS z x)) ∧ ∃ p : Regrown, w'' = grow (redrawn wr p.d) p.os := fun d os => Calls.regrown_of (cStrings hzs)
     obtain ⟨s, hs⟩ : ∃ s, s = cmpS z x := ⟨_, rfl⟩
     rw [← hs] at c3
     have HSg := Aside0.mk hs
     clear hz hs hzs
     by_cases hs0 : 0 < s
     ·have ds : decide (0 < s) = true := decide_eq_true hs0
      go_upto_region 6 with fail
      refine wp_region_quiet_below mixed (by kernel_rfl) ?_
      repeat (first | go_big_quiet_step (exact c3 _ _) | quiet_step (exact c3 _ _))
      refine wpQuiet_nil ?_
      intro _ hw'
      obtain ⟨⟨dq, osq⟩, hw''⟩ := hw'
      subst hw''
      have HLq := Aside0.mk (HK0.out.1.trans ((below_regrown wr dq osq).mono HK0.out.1.size))
      clear rx x0 xp rp c3
      generalize grow (redrawn wr dq) osq = wk at *
      go_wp2
      go_roundg p
      case measure => omega
      case rel => exact ⟨p, by go_num, by omega, Nat.le_refl _, ⟨HLq.out, fun j hj h => by
       by_cases e : j = p
       ·subst e; rw [← HZ.out, ← HSg.out]; exact hs0
       ·exact HK.out j hj (by omega)⟩⟩
     ·have ds : decide (0 < s) = false := decide_eq_false hs0
      go_upto_region 6 with fail
      refine wp_region_quiet_below mixed (by kernel_rfl) ?_
      repeat (first | go_big_quiet_step (exact c3 _ _) | quiet_step (exact c3 _ _))
      refine wpQuiet_nil ?_
      intro _ hw'
      obtain ⟨⟨dq, osq⟩, hw''⟩ := hw'
      subst hw''
      have HLq := Aside0.mk (HK0.out.1.trans ((below_regrown wr dq osq).mono HK0.out.1.size))
      replace x0 := rx dq osq
      replace xp := rp dq osq
      clear rx rp c3
      generalize grow (redrawn wr dq) osq = wk at *
      have rx := cell_regrown x0
      have rp := cell_regrown xp
      by_cases hzx : z = x
      ·subst hzx
       have hzb : (z.toList == z.toList) = true := by rw [SpecB.tl_beq]; exact decide_eq_true rfl
       go_upto_region 8 with fail
       refine wp_region_quiet_below mixed (by kernel_rfl) ?_
       repeat (first | go_big_quiet_step (fail) | quiet_step (fail))
       refine wpQuiet_nil ?_
       intro _ hw'
       obtain ⟨⟨dq, osq⟩, hw''⟩ := hw'
       subst hw''
       have HL := Aside0.mk (HLq.out.trans ((below_regrown wk dq osq).mono HLq.out.size))
       clear rx rp x0 xp
       go_wp2
       go_roundg (n - (i + 1))
       case measure => have := HJ.out; omega
       case rel => exact ⟨some ⟨gO, 0, none⟩, co, m, i + 1, rfl, by go_num, by have := HJ.out; omega, Nat.le_refl _, ⟨acc, HI.out.1, by have := HI.out.2.1; omega, (HI.out.2.2.1.below (HL.out.mono (Nat.le_refl _))), HI.out.2.2.2.1.trans (HL.out.mono HI.out.2.2.2.1.size), HI.out.2.2.2.2.1, fun y => by
        rw [HD.out, List.mem_append, List.mem_singleton, ← HI.out.2.2.2.2.2 y]
        exact ⟨.inl, fun h => h.elim id fun e => by rw [e, HZ.out]; exact List.getElem_mem _⟩⟩⟩
      ·have hzb : (z.toList == x.toList) = false := by rw [SpecB.tl_beq]; exact decide_eq_false hzx
       go_upto_region 8 with fail
       refine wp_region_quiet_below mixed (by kernel_rfl) ?_
       repeat (first | go_big_quiet_step (fail) | quiet_step (fail))
       refine wpQuiet_nil ?_
       intro _ hw'
       obtain ⟨⟨dq, osq⟩, hw''⟩ := hw'
       subst hw''
       have HL := Aside0.mk (HLq.out.trans ((below_regrown wk dq osq).mono HLq.out.size))
       replace x0 := rx dq osq
       clear rx rp HLq xp
       generalize grow (redrawn wk dq) osq = wj at *
       generalize some (Addr.mk gO 0 none) = O at *
       have HP : Aside0 (∀ j (hj : j < acc.length), j + 1 = k → cmpS acc[j] x < 0) := ⟨fun j hj h => by
        obtain rfl : j = p := by omega
        rw [← HZ.out]
        have h1 := HSg.out
        have h2 : cmpS z x ≠ 0 := fun e => hzx (Fct.ordS.zero _ _ e)
        omega⟩
       clear HK0
       go_upto_region 9 with fail
       have hC := (HQ.out.below HL.out).C (by omega)
       have hCt := Kd.C_take hC (show k ≤ acc.length by have := HI.out.1; omega)
       have hCd := Kd.C_drop (m := k) (c := co) hC (by have := HI.out.1; omega) (by have := HI.out.1; omega)
       rw [show (acc.take k).length = k by rw [List.length_take]; have := HI.out.1; omega] at hCt
       rw [show (acc.drop k).length = m - k by rw [List.length_drop]; have := HI.out.1; omega] at hCd
       have cu1 := HCT.out O m co k hkm hmc
       have cu2 := HCF.out O m co k hkm
       obtain ⟨A0, hA0⟩ : ∃ A0, A0 = (if co = k then O else O.map (·.add (k * 1))) := ⟨_, rfl⟩
       obtain ⟨d, hd⟩ : ∃ d, d = m - k := ⟨_, rfl⟩
       obtain ⟨cd, hcd⟩ : ∃ cd, cd = co - k := ⟨_, rfl⟩
       rw [← hA0, ← hd, ← hcd] at cu2
       replace hCd : Kd.C Kd.string wj A0 d (acc.drop k) := by rw [hA0, hd]; exact hCd
       have HCt := Aside0.mk hCt
       have HCd := Aside0.mk hCd
       have HDk := Aside0.mk (show k + 1 + d = m + 1 by omega)
       clear hC hCt hCd hA0 hd hcd
       go_wp2_with (first
        | (at_builtin; obtain ⟨A1, c1, w1, happ, hS, hb⟩ := appendC (W := wj) wj.heap.size none O 0 0 k co k (Nat.zero_add k).symm [] (acc.take k) (own_nil _ _ _ _) rfl HCt.out (Nat.le_refl _) (by omega); refine Lib.wpList_append_run _ (by rfl) (.tmp 46) (.tmp 49) 70 70 (by rfl) (.slice none 0 0) (.slice O k co) (by rfl) (by rfl) (.slice A1 k c1) w1 (happ 70) ?_; have HS1 := Aside0.mk hS; have HL1 := Aside0.mk hb; replace x0 := mvc hb x0; clear hS hb happ)
        | (at_builtin; obtain ⟨A2, c2, w2, happ, hS, hb⟩ := appendC (W := w1.alloc (.cells #[.string x] 9)) wj.heap.size A1 (some ⟨w1.heap.size, 0, none⟩) k c1 1 1 (k + 1) rfl ([] ++ acc.take k) [x] (HS1.out.below ((Go.RowKit.Below.refl _ _).alloc (Nat.le_refl _) _)) (by rw [List.nil_append, List.length_take]; have := HI.out.1; omega) (one_C w1 x) (by have := HL1.out.size; simp; omega) (by omega); refine Lib.wpList_append_run _ (by rfl) (.tmp 51) (.tmp 56) 70 70 (by rfl) (.slice A1 k c1) (.slice (some ⟨w1.heap.size, 0, none⟩) 1 1) (by rfl) (by rfl) (.slice A2 (k + 1) c2) w2 (happ 70) ?_; have HS2 := Aside0.mk hS; have HL2 := Aside0.mk (HL1.out.trans (((Go.RowKit.Below.refl wj.heap.size w1).alloc HL1.out.size _).trans hb)); clear hS hb happ)
        | (at_builtin; obtain ⟨A3, c3, w3, happ, hS, hb⟩ := appendC (W := w2) wj.heap.size A2 A0 (k + 1) c2 d cd (k + 1 + d) rfl ([] ++ acc.take k ++ [x]) (acc.drop k) HS2.out (by rw [List.nil_append, List.length_append, List.length_take]; have := HI.out.1; simp; omega) (Kd.C_below HCd.out HL2.out) HL2.out.size (by have := HDk.out; omega); refine Lib.wpList_append_run _ (by rfl) (.tmp 58) (.tmp 61) 70 70 (by rfl) (.slice A2 (k + 1) c2) (.slice A0 d cd) (by rfl) (by rfl) (.slice A3 (k + 1 + d) c3) w3 (happ 70) ?_; have HS3 := Aside0.mk hS; have HL3 := Aside0.mk (HL2.out.trans hb); clear hS hb happ)
        | fail)
       go_roundg (n - (i + 1))
       case measure => have := HJ.out; omega
       case rel => exact ⟨A3, c3, k + 1 + d, i + 1, rfl, by go_num, by have := HJ.out; omega, Nat.le_refl _, ⟨acc.take k ++ [x] ++ acc.drop k, by have := HDk.out; have := HI.out.1; simp; omega, by have := HDk.out; omega, by have h := own_weaken HS3.out (Nat.le_trans HI.out.2.2.2.1.size HL.out.size); rw [List.nil_append] at h; exact h, HI.out.2.2.2.1.trans ((HL.out.trans (HL3.out.mono HL.out.size)).mono HI.out.2.2.2.1.size), ins_up HI.out.2.2.2.2.1 (by have := HI.out.1; omega) HK.out HP.out, fun y => by rw [HD.out, ins_mem, List.mem_append, List.mem_singleton, ← HI.out.2.2.2.2.2 y]⟩⟩
  ·have hltz : ¬ (i : Int) < (n : Int) := by omega
   have he : acc = sortO xs := Fct.setO_one Fct.ordS HI.out.2.2.2.2.1 (fun y => by have := HI.out.2.2.2.2.2 y; rwa [List.take_of_length_le (by omega)] at this)
   have HE := Aside0.mk he
   clear he
   go_wp2
   go_ret
   rw [← HE.out, HI.out.1]
   exact ⟨_, _, rfl, HI.out.2.2.1, HI.out.2.2.2.1⟩
end Go.Proofs.YtghommaokdhjmaaGreat.Sat
/- The reference's Vars of any node of a right formula. -/
namespace Go.Proofs.YtghommaokdhjmaaGreat.Sat
open Go.RowKit Go.Lib Go.Sort Go.Proofs.SymP Go.Proofs.YtghommaokdhjmaaGreatW.PrintWords P FactC IRow Frm SpecM SpecB PSat PSpec CmpF BothB SortStr Str
theorem varsL_size (ts : List S92) (h : fitT ts = true) : ∀ acc : List ByteArray, (∀ y ∈ acc, y.size ≤ 1000000) → ∀ y ∈ varsL acc ts, y.size ≤ 1000000 := by
 induction ts with
 | nil => intro acc ha; exact ha
 | cons t ts ih =>
  have h2 : fitT ts = true := by unfold fitT at h ⊢; rw [List.all_cons, Bool.and_eq_true] at h; exact h.2
  have h1 : t.f0.size ≤ 1000000 := by unfold fitT at h; rw [List.all_cons, Bool.and_eq_true] at h; have := h.1; simp at this; omega
  intro acc ha
  simp only [varsL]
  split
  ·exact ih h2 acc ha
  ·split
   ·exact ih h2 acc ha
   ·refine ih h2 _ fun y hy => ?_
    rcases List.mem_append.1 hy with h | h
    ·exact ha y h
    ·rw [List.mem_singleton.1 h]; exact h1
theorem varsN_size {l : List S62} (h : fitNs l) : ∀ y ∈ varsN l, y.size ≤ 1000000 := by
 intro y hy
 obtain ⟨x, hx, hy⟩ := List.mem_flatMap.1 hy
 exact varsL_size _ (h.1 x hx).1.2 [] (by simp) y hy
theorem varsN_sub {l l' : List S62} (h : ∀ x ∈ l', x ∈ l) : ∀ y ∈ varsN l', y ∈ varsN l := by
 intro y hy
 obtain ⟨x, hx, hy⟩ := List.mem_flatMap.1 hy
 exact List.mem_flatMap.2 ⟨x, h x hx, hy⟩
abbrev Rv (w : World) (A : Option Addr) (n c q : Nat) (xs : List ByteArray) : Prop := ∀ W, Go.RowKit.Below w.heap.size w W → Calls Tryz.prog 43 #[.slice A n c, .int .i64 (q : Int)] W fun e w' => ∃ V vc, e = .returned (.slice V xs.length vc) ∧ SRow w' W.heap.size (.slice V xs.length vc) xs ∧ Go.RowKit.Below W.heap.size W w'
set_option maxHeartbeats 8000000 in
set_option maxRecDepth 1000000 in
theorem rvars_calls {A : Option Addr} {n c : Nat} {l : List S62} {fr : List Int} {w : World} (h : NRow w A n c l) (hf : fitNs l) (hr : Right l fr) {q : Nat} (hq : q < n) : Rv w A n c q (sortO (subN l fr q)) := by
 intro W hW
 replace h := h.below hW
 clear hW
 have hu := Tryz.underlying62
 have hn := h.len
 have hcap := h.cap
 have hn2 : n ≤ 40 := by have := hr.le; omega
 obtain ⟨hz1, hz2⟩ := hr.ok q (by rw [hr.len]; omega)
 obtain ⟨f, hz⟩ : ∃ f : Nat, fr.getD q 0 = (f : Int) := ⟨(fr.getD q 0).toNat, by omega⟩
 have hfq : f ≤ q := by omega
 have HBg : Aside0 (Calls Tryz.prog 75 #[.slice A n c, .int .i64 (q : Int)] W fun e w' => e = .returned (.int .i64 (f : Int)) ∧ Go.RowKit.Below W.heap.size W w') := ⟨hz ▸ cBegin h hr hq⟩
 have hsub : subN l fr q = varsN ((l.take (q + 1)).drop f) := by unfold subN; rw [hz]; rfl
 rw [hsub]
 have HZ : Aside0 (∀ y ∈ varsN ((l.take (q + 1)).drop f), y.size ≤ 1000000) := ⟨fun y hy => varsN_size hf y (varsN_sub (fun x hx => List.mem_of_mem_take (List.mem_of_mem_drop hx)) y hy)⟩
 have HR := Aside0.mk h
 have HF := Aside0.mk hf
 have HN := Aside0.mk hn
 clear h hf hr hn hz1 hz2 hz hsub
 go_enter Tryz.func43, Tryz.ntmps43
 go_wp2_with (first
  | (go_at_call 75; with_reducible refine HBg.out.mono ?_; rintro e w1 ⟨rfl, hb⟩; have HB := Aside0.mk hb; clear hb)
  | fail)
 go_loopg [6, 7] (q + 1) (fun gg s6 s7 wr => ∃ (B : Option Addr) (cb : Nat) (xs : List ByteArray) (j : Nat), s6 = .slice B xs.length cb ∧ s7 = .int .i64 j ∧ f ≤ j ∧ j ≤ q + 1 ∧ q + 1 - j ≤ gg ∧ Aside0 (xs = varsN ((l.take j).drop f) ∧ xs.length ≤ 1000 * j ∧ SRow wr W.heap.size (.slice B xs.length cb) xs ∧ Go.RowKit.Below W.heap.size W wr))
 case atStart => exact ⟨none, 0, [], f, rfl, rfl, Nat.le_refl _, by omega, by omega, ⟨by rw [List.drop_of_length_le (by rw [List.length_take]; omega)]; rfl, Nat.zero_le _, own_nil _ _ _ _, HB.out⟩⟩
 case round =>
  obtain ⟨B, cb, xs, j, rfl, rfl, hfj, hj, hg, HI⟩ := hrel
  by_cases hlt : j < q + 1
  ·have hltz : (j : Int) ≤ (q : Int) := by omega
   have hjz : (0 : Int) ≤ (j : Int) := by omega
   have hjn : (j : Int) < (n : Int) := by omega
   have hj2 : j < l.length := by have := HN.out; omega
   obtain ⟨ad, A2, c3, eA, y0, y1, y2, y3, y4, y5, y6⟩ := at_T62 (Kd.C_below HR.out.C HI.out.2.2.2) (j : Int) (by omega) hjn
   subst eA
   rw [rd62_get hj2] at y0 y1 y2 y3 y4 y5 y6
   have HX := Aside0.mk (HF.out.1 l[j] (List.getElem_mem hj2))
   have HD : Aside0 (varsN ((l.take (j + 1)).drop f) = varsN ((l.take j).drop f) ++ SpecM.varsL [] l[j].f1.f1) := ⟨by unfold varsN; rw [List.take_succ_eq_append_getElem hj2, List.drop_append_of_le_length (by rw [List.length_take]; omega), List.flatMap_append]; simp⟩
   generalize l[j] = x at *
   rw [show ((j : Int)).toNat * 5 = j * 5 by omega] at y0 y1 y2 y3 y4
   have hlen := varsL_len x.f1.f1 []
   have cV : Aside0 (Calls Tryz.prog 44 #[.agg #[.string x.f1.f0, .slice A2 x.f1.f1.length c3]] wr fun e w' => ∃ v, e = .returned v ∧ SRow w' wr.heap.size v (SpecM.varsL [] x.f1.f1) ∧ Go.RowKit.Below wr.heap.size wr w') := ⟨cVars01 x.f1.f0 (by have := HX.out.2; omega) y6 y5⟩
   have hl1 : xs.length + (SpecM.varsL [] x.f1.f1).length ≤ 1000000 := by have := HX.out.2; have := HI.out.2.1; simp at hlen; omega
   have HJ := Aside0.mk hlt
   clear y0 y3 y4 y5 y6 hlt
   go_wp2_with (first
    | (go_at_call 44; with_reducible refine cV.out.mono ?_; rintro e w3 ⟨v, rfl, hS, hb⟩; have HB3 := Aside0.mk hb; have HS := Aside0.mk hS; clear hb hS)
    | (at_builtin; obtain ⟨A', c', w5, happ, hS2, hb2⟩ := appendS (W := w3) W.heap.size wr.heap.size (.slice B xs.length cb) v xs (SpecM.varsL [] x.f1.f1) (HI.out.2.2.1.below HB3.out) HS.out (Nat.le_trans HI.out.2.2.2.size HB3.out.size) hl1; refine Lib.wpList_append_run _ (by rfl) (.tmp 17) (.tmp 23) 70 70 (by rfl) (.slice B xs.length cb) v (by rfl) (by rfl) (.slice A' (xs.length + (SpecM.varsL [] x.f1.f1).length) c') w5 (happ 70) ?_; have HS2 := Aside0.mk hS2; have HB5 := Aside0.mk ((HI.out.2.2.2.trans (HB3.out.mono HI.out.2.2.2.size)).trans hb2); clear hS2 hb2 happ)
    | fail)
   go_roundg (q + 1 - (j + 1))
   case measure => have := HJ.out; omega
   case rel => exact ⟨A', c', xs ++ SpecM.varsL [] x.f1.f1, j + 1, by rw [List.length_append], by go_num, by omega, by have := HJ.out; omega, Nat.le_refl _, ⟨by rw [HD.out, HI.out.1], by have := HX.out.2; have := HI.out.2.1; simp at hlen ⊢; omega, by rw [List.length_append]; exact HS2.out, HB5.out⟩⟩
  ·have hltz : ¬ (j : Int) ≤ (q : Int) := by omega
   obtain rfl : j = q + 1 := by omega
   have HT := Aside0.mk (SC.of HI.out.2.2.1 rfl)
   have hl1 : xs.length ≤ 100000 := by have := HI.out.2.1; omega
   have HX := Aside0.mk HI.out.1
   go_wp2_with (first
    | (go_at_call 76; with_reducible refine (rsorted_calls HT.out hl1 (by rw [HX.out]; exact HZ.out)).mono ?_; rintro e w3 ⟨V, vc, rfl, hS, hb⟩; have HS := Aside0.mk hS; have HB3 := Aside0.mk hb; clear hb hS)
    | fail)
   go_ret
   rw [← HX.out]
   exact ⟨V, vc, rfl, own_weaken HS.out HI.out.2.2.2.size, HI.out.2.2.2.trans (HB3.out.mono HI.out.2.2.2.size)⟩
end Go.Proofs.YtghommaokdhjmaaGreat.Sat
/- The reference's Found and Tested at a node: what they answer. -/
namespace Go.Proofs.YtghommaokdhjmaaGreat.Sat
open Go.RowKit Go.Lib Go.Sort Go.Proofs.SymP Go.Proofs.YtghommaokdhjmaaGreatW.PrintWords P FactC IRow Frm SpecM SpecB PSat PSpec CmpF BothB SortStr Str
abbrev Lr (w : World) (A : Option Addr) (n c : Nat) (fn : Nat) (q : Nat) (v : Bool) : Prop := ∀ W, Go.RowKit.Below w.heap.size w W → Calls Tryz.prog fn #[.slice A n c, .int .i64 (q : Int)] W fun e w' => e = .returned (.bool v) ∧ Go.RowKit.Below W.heap.size W w'
theorem Lr.up {w w0 : World} {A : Option Addr} {n c fn q : Nat} {v : Bool} (h : Lr w A n c fn q v) (hb : Go.RowKit.Below w.heap.size w w0) : Lr w0 A n c fn q v := fun W hW => h W (hb.trans (hW.mono hb.size))
theorem Rv.up {w w0 : World} {A : Option Addr} {n c q : Nat} {xs : List ByteArray} (h : Rv w A n c q xs) (hb : Go.RowKit.Below w.heap.size w w0) : Rv w0 A n c q xs := fun W hW => h W (hb.trans (hW.mono hb.size))
theorem Lr.re {w0 : World} {A : Option Addr} {n c fn q : Nat} {v : Bool} (w2 : World) (h : Lr w0 A n c fn q v) (hb : Go.RowKit.Below w0.heap.size w0 w2) : ∀ d os, Calls Tryz.prog fn #[.slice A n c, .int .i64 (q : Int)] (grow (redrawn w2 d) os) fun e w'' => e = .returned (.bool v) ∧ ∃ p : Regrown, w'' = grow (redrawn w2 p.d) p.os := fun d os => Calls.regrown_of (h _ (hb.trans ((below_regrown w2 d os).mono hb.size)))
theorem Lr.one {w1 : World} {A : Option Addr} {n c fn q : Nat} {v : Bool} {w0 : World} (h : Lr w0 A n c fn q v) (hb : Go.RowKit.Below w0.heap.size w0 w1) : Calls Tryz.prog fn #[.slice A n c, .int .i64 (q : Int)] w1.drew fun e w' => e = .returned (.bool v) ∧ Go.RowKit.Below w1.heap.size w1 w' := by
 have hd1 : Go.RowKit.Below w1.heap.size w1 w1.drew := below_drew1 (Go.RowKit.Below.refl _ _)
 exact (h _ (hb.trans (hd1.mono hb.size))).mono fun e w' h2 => ⟨h2.1, hd1.trans (h2.2.mono hd1.size)⟩
abbrev allB (xs ys : List ByteArray) : Bool := xs.all fun s => ys.any fun y => decide (s = y)
section
variable {w : World} {A : Option Addr} {n c : Nat} {l : List S62}


set_option maxHeartbeats 8000000 in
set_option maxRecDepth 1000000 in
theorem rfound_go (hl : NRow w A n c l) {q a b : Nat} (hq : q < n) {x : S62} (hx : rd_T62 l (q : Int) = x) {k : Int} {v vA vB tA tB : Bool} {sa sb : List ByteArray} (hk : x.f0 = k) (ha : k ≠ 1 → x.f2 = (a : Int)) (hb : two k → x.f3 = (b : Int)) (HA : k ≠ 1 → Lr w A n c 73 a vA) (HB : two k → Lr w A n c 73 b vB ∧ Lr w A n c 41 a tA ∧ Lr w A n c 41 b tB ∧ Rv w A n c a sa ∧ Rv w A n c b sb) (hs : sa.length ≤ 1000000 ∧ sb.length ≤ 1000000)
  (hc : (k = 1 ∧ v = true) ∨ (k = 5 ∧ v = vA) ∨ (k = 6 ∧ v = vA) ∨ (k = 2 ∧ v = false) ∨ (k = 7 ∧ v = false) ∨ (k = 3 ∧ vA = false ∧ v = false) ∨ (k = 3 ∧ vA = true ∧ tB = false ∧ v = false) ∨ (k = 4 ∧ vA = false ∧ v = false) ∨ (k = 4 ∧ vA = true ∧ vB = false ∧ v = false) ∨ (k = 8 ∧ vB = false ∧ v = false) ∨ (k = 8 ∧ vB = true ∧ tA = false ∧ v = false) ∨ (k = 3 ∧ vA = true ∧ tB = true ∧ v = allB sb sa) ∨ (k = 4 ∧ vA = true ∧ vB = true ∧ v = decide (sa = sb)) ∨ (k = 8 ∧ vB = true ∧ tA = true ∧ v = allB sa sb)) : Lr w A n c 73 q v := by
 intro w0 hw0
 have hu := Tryz.underlying62
 have hcap := hl.cap
 have hq1 : (0 : Int) ≤ (q : Int) := by omega
 have hq2 : (q : Int) < (n : Int) := by omega
 obtain ⟨ad, A2, c2, eA, y0, y1, y2, y3, y4, y5, y6⟩ := at_T62 (hl.below hw0).C (q : Int) (by omega) (by omega)
 subst eA
 rw [hx] at y0 y1 y2 y3 y4
 rw [hk] at y0
 rw [show ((q : Int)).toNat * 5 = q * 5 by omega] at y0 y1 y2 y3 y4
 have mixed : Tryz.prog.follows .mixedOrders = true := by kernel_rfl
 rcases hc with ⟨rfl, rfl⟩ | ⟨rfl, rfl⟩ | ⟨rfl, rfl⟩ | ⟨rfl, rfl⟩ | ⟨rfl, rfl⟩ | ⟨rfl, rfl, rfl⟩ | ⟨rfl, rfl, rfl, rfl⟩ | ⟨rfl, rfl, rfl⟩ | ⟨rfl, rfl, rfl, rfl⟩ | ⟨rfl, rfl, rfl⟩ | ⟨rfl, rfl, rfl, rfl⟩ | ⟨rfl, rfl, rfl, rfl⟩ | ⟨rfl, rfl, rfl, rfl⟩ | ⟨rfl, rfl, rfl, rfl⟩
 all_goals (
  (try have ha' := ha (by decide))
  (try have hb' := hb (by decide))
  (try have H1 := Aside0.mk ((HA (by decide)).up hw0))
  (try have H2 := Aside0.mk ((HB (by decide)).1.up hw0))
  (try have H3 := Aside0.mk ((HB (by decide)).2.1.up hw0))
  (try have H4 := Aside0.mk ((HB (by decide)).2.2.1.up hw0))
  (try have VA := Aside0.mk ((HB (by decide)).2.2.2.1.up hw0))
  (try have VB := Aside0.mk ((HB (by decide)).2.2.2.2.up hw0))
  clear ha hb HA HB hl hw0 y5 y6 hx hq
  have HS := Aside0.mk hs
  clear hs
  go_enter Tryz.func73, Tryz.ntmps73
  go_upto_region 2 with fail
  refine wp_world (fun V => V.cell? ⟨w0.heap.size, 0, none⟩ = some (.int .i64 x.f0) ∧ V.cell? ⟨w0.heap.size, 3, none⟩ = some (.int .i64 x.f2) ∧ V.cell? ⟨w0.heap.size, 4, none⟩ = some (.int .i64 x.f3) ∧ Go.RowKit.Below w0.heap.size w0 V) ⟨by simp [hk], by first | (simp; done) | simp [ha'], by first | (simp; done) | simp [hb'], (Go.RowKit.Below.refl _ w0).alloc (Nat.le_refl _) _⟩ ?_
  clear y0 y1 y2 y3 y4
  rintro w1 ⟨z0, z3, z4, hb1⟩
  have HB0 := Aside0.mk hb1
  clear hb1
  rw [hk] at z0
  (try rw [ha'] at z3)
  (try rw [hb'] at z4)
  (try have a1 : (0 : Int) ≤ (a : Int) := by omega)
  generalize w0.heap.size = g0 at z0 z3 z4)
 iterate 5 (
  go_wp2_with (first
   | (go_at_call 73; with_reducible refine (H1.out _ HB0.out).mono ?_; rintro e w3 ⟨rfl, hb⟩; replace HB0 := Aside0.mk (HB0.out.trans (hb.mono HB0.out.size)); clear hb)
   | fail)
  go_ret
  focus exact ⟨rfl, HB0.out⟩)
 iterate 6 (focus (
  go_wp2
  have r3 := cell_regrown z3
  have r4 := cell_regrown z4
  (try have c1 := H1.out.re w1 HB0.out)
  (try have c2 := H2.out.re w1 HB0.out)
  (try have c3 := H3.out.re w1 HB0.out)
  (try have c4 := H4.out.re w1 HB0.out)
  refine wp_region_quiet_below mixed (by kernel_rfl) ?_
  repeat (first | go_big_quiet_step (first | with_reducible exact c1 _ _ | with_reducible exact c2 _ _ | with_reducible exact c3 _ _ | with_reducible exact c4 _ _) | quiet_step (first | with_reducible exact c1 _ _ | with_reducible exact c2 _ _ | with_reducible exact c3 _ _ | with_reducible exact c4 _ _))
  refine wpQuiet_nil ?_
  intro _ hw'
  obtain ⟨⟨dq, osq⟩, hw''⟩ := hw'
  subst hw''
  go_wp2
  go_ret
  exact ⟨rfl, HB0.out.trans ((below_regrown w1 dq osq).mono HB0.out.size)⟩))
 ·have K1 := Aside0.mk (H1.out.one HB0.out)
  have K2 := H4
  have W1 := VB
  have W2 := VA
  have HS1 := Aside0.mk (And.intro HS.out.2 HS.out.1)
  clear H1 H2 H3 H4 VA VB HS
  go_wp2
  go_region_held3 (fun w' => w'.cell? ⟨g0, 3, none⟩ = some (.int .i64 (a : Int)) ∧ w'.cell? ⟨g0, 4, none⟩ = some (.int .i64 (b : Int))) (first | go_keep | assumption)
   (first
    | (go_at_call 73; (with_reducible refine K1.out.mono ?_); rintro e w2 ⟨rfl, hb⟩; have HB1 := Aside0.mk (HB0.out.trans (hb.mono HB0.out.size)); replace z3 := mvc hb z3; replace z4 := mvc hb z4; clear hb)
    | (go_at_call 73; (with_reducible refine (K2.out _ HB1.out).mono ?_); rintro e w3 ⟨rfl, hb⟩; have HB2 := Aside0.mk (HB1.out.trans (hb.mono HB1.out.size)); replace z3 := mvc hb z3; replace z4 := mvc hb z4; clear hb)
    | (go_at_call 41; (with_reducible refine (K2.out _ HB1.out).mono ?_); rintro e w3 ⟨rfl, hb⟩; have HB2 := Aside0.mk (HB1.out.trans (hb.mono HB1.out.size)); replace z3 := mvc hb z3; replace z4 := mvc hb z4; clear hb)
    | (go_at_call 43; (with_reducible refine (W1.out _ HB2.out).mono ?_); rintro e w4 ⟨V1, v1c, rfl, hS, hb⟩; have HB3 := Aside0.mk (HB2.out.trans (hb.mono HB2.out.size)); have S1 := Aside0.mk (SC.of hS rfl); replace z3 := mvc hb z3; replace z4 := mvc hb z4; clear hb hS)
    | (go_at_call 43; (with_reducible refine (W2.out _ HB3.out).mono ?_); rintro e w5 ⟨V2, v2c, rfl, hS, hb⟩; have HB4 := Aside0.mk (HB3.out.trans (hb.mono HB3.out.size)); have S2 := Aside0.mk (SC.of hS rfl); have S1b := Aside0.mk (S1.out.below hb); replace z3 := mvc hb z3; replace z4 := mvc hb z4; clear hb hS)
    | (go_at_call 42; (with_reducible refine (cAll HS1.out.1 HS1.out.2 (S1b.out.C HS1.out.1) S1b.out.cap (S2.out.C HS1.out.2) S2.out.cap).mono ?_); rintro e w6 ⟨rfl, hb⟩; have HB5 := Aside0.mk (HB4.out.trans (hb.mono HB4.out.size)); replace z3 := mvc hb z3; replace z4 := mvc hb z4; clear hb)
    | (go_at_call 107; (with_reducible refine (cTexts HS1.out.1 (S1b.out.C HS1.out.1) S1b.out.cap (S2.out.C HS1.out.2) S2.out.cap).mono ?_); rintro e w6 ⟨rfl, hb⟩; have HB5 := Aside0.mk (HB4.out.trans (hb.mono HB4.out.size)); replace z3 := mvc hb z3; replace z4 := mvc hb z4; clear hb)
    | fail)
  all_goals go_wp2
  all_goals go_ret
  all_goals exact ⟨rfl, HB5.out⟩
 ·have K1 := Aside0.mk (H1.out.one HB0.out)
  have K2 := H2
  have W1 := VA
  have W2 := VB
  have HS1 := HS
  clear H1 H2 H3 H4 VA VB HS
  go_wp2
  go_region_held3 (fun w' => w'.cell? ⟨g0, 3, none⟩ = some (.int .i64 (a : Int)) ∧ w'.cell? ⟨g0, 4, none⟩ = some (.int .i64 (b : Int))) (first | go_keep | assumption)
   (first
    | (go_at_call 73; (with_reducible refine K1.out.mono ?_); rintro e w2 ⟨rfl, hb⟩; have HB1 := Aside0.mk (HB0.out.trans (hb.mono HB0.out.size)); replace z3 := mvc hb z3; replace z4 := mvc hb z4; clear hb)
    | (go_at_call 73; (with_reducible refine (K2.out _ HB1.out).mono ?_); rintro e w3 ⟨rfl, hb⟩; have HB2 := Aside0.mk (HB1.out.trans (hb.mono HB1.out.size)); replace z3 := mvc hb z3; replace z4 := mvc hb z4; clear hb)
    | (go_at_call 41; (with_reducible refine (K2.out _ HB1.out).mono ?_); rintro e w3 ⟨rfl, hb⟩; have HB2 := Aside0.mk (HB1.out.trans (hb.mono HB1.out.size)); replace z3 := mvc hb z3; replace z4 := mvc hb z4; clear hb)
    | (go_at_call 43; (with_reducible refine (W1.out _ HB2.out).mono ?_); rintro e w4 ⟨V1, v1c, rfl, hS, hb⟩; have HB3 := Aside0.mk (HB2.out.trans (hb.mono HB2.out.size)); have S1 := Aside0.mk (SC.of hS rfl); replace z3 := mvc hb z3; replace z4 := mvc hb z4; clear hb hS)
    | (go_at_call 43; (with_reducible refine (W2.out _ HB3.out).mono ?_); rintro e w5 ⟨V2, v2c, rfl, hS, hb⟩; have HB4 := Aside0.mk (HB3.out.trans (hb.mono HB3.out.size)); have S2 := Aside0.mk (SC.of hS rfl); have S1b := Aside0.mk (S1.out.below hb); replace z3 := mvc hb z3; replace z4 := mvc hb z4; clear hb hS)
    | (go_at_call 42; (with_reducible refine (cAll HS1.out.1 HS1.out.2 (S1b.out.C HS1.out.1) S1b.out.cap (S2.out.C HS1.out.2) S2.out.cap).mono ?_); rintro e w6 ⟨rfl, hb⟩; have HB5 := Aside0.mk (HB4.out.trans (hb.mono HB4.out.size)); replace z3 := mvc hb z3; replace z4 := mvc hb z4; clear hb)
    | (go_at_call 107; (with_reducible refine (cTexts HS1.out.1 (S1b.out.C HS1.out.1) S1b.out.cap (S2.out.C HS1.out.2) S2.out.cap).mono ?_); rintro e w6 ⟨rfl, hb⟩; have HB5 := Aside0.mk (HB4.out.trans (hb.mono HB4.out.size)); replace z3 := mvc hb z3; replace z4 := mvc hb z4; clear hb)
    | fail)
  all_goals go_wp2
  all_goals go_ret
  all_goals exact ⟨rfl, HB5.out⟩
 ·have K1 := Aside0.mk (H2.out.one HB0.out)
  have K2 := H3
  have W1 := VA
  have W2 := VB
  have HS1 := HS
  clear H1 H2 H3 H4 VA VB HS
  go_wp2
  go_region_held3 (fun w' => w'.cell? ⟨g0, 3, none⟩ = some (.int .i64 (a : Int)) ∧ w'.cell? ⟨g0, 4, none⟩ = some (.int .i64 (b : Int))) (first | go_keep | assumption)
   (first
    | (go_at_call 73; (with_reducible refine K1.out.mono ?_); rintro e w2 ⟨rfl, hb⟩; have HB1 := Aside0.mk (HB0.out.trans (hb.mono HB0.out.size)); replace z3 := mvc hb z3; replace z4 := mvc hb z4; clear hb)
    | (go_at_call 73; (with_reducible refine (K2.out _ HB1.out).mono ?_); rintro e w3 ⟨rfl, hb⟩; have HB2 := Aside0.mk (HB1.out.trans (hb.mono HB1.out.size)); replace z3 := mvc hb z3; replace z4 := mvc hb z4; clear hb)
    | (go_at_call 41; (with_reducible refine (K2.out _ HB1.out).mono ?_); rintro e w3 ⟨rfl, hb⟩; have HB2 := Aside0.mk (HB1.out.trans (hb.mono HB1.out.size)); replace z3 := mvc hb z3; replace z4 := mvc hb z4; clear hb)
    | (go_at_call 43; (with_reducible refine (W1.out _ HB2.out).mono ?_); rintro e w4 ⟨V1, v1c, rfl, hS, hb⟩; have HB3 := Aside0.mk (HB2.out.trans (hb.mono HB2.out.size)); have S1 := Aside0.mk (SC.of hS rfl); replace z3 := mvc hb z3; replace z4 := mvc hb z4; clear hb hS)
    | (go_at_call 43; (with_reducible refine (W2.out _ HB3.out).mono ?_); rintro e w5 ⟨V2, v2c, rfl, hS, hb⟩; have HB4 := Aside0.mk (HB3.out.trans (hb.mono HB3.out.size)); have S2 := Aside0.mk (SC.of hS rfl); have S1b := Aside0.mk (S1.out.below hb); replace z3 := mvc hb z3; replace z4 := mvc hb z4; clear hb hS)
    | (go_at_call 42; (with_reducible refine (cAll HS1.out.1 HS1.out.2 (S1b.out.C HS1.out.1) S1b.out.cap (S2.out.C HS1.out.2) S2.out.cap).mono ?_); rintro e w6 ⟨rfl, hb⟩; have HB5 := Aside0.mk (HB4.out.trans (hb.mono HB4.out.size)); replace z3 := mvc hb z3; replace z4 := mvc hb z4; clear hb)
    | (go_at_call 107; (with_reducible refine (cTexts HS1.out.1 (S1b.out.C HS1.out.1) S1b.out.cap (S2.out.C HS1.out.2) S2.out.cap).mono ?_); rintro e w6 ⟨rfl, hb⟩; have HB5 := Aside0.mk (HB4.out.trans (hb.mono HB4.out.size)); replace z3 := mvc hb z3; replace z4 := mvc hb z4; clear hb)
    | fail)
  all_goals go_wp2
  all_goals go_ret
  all_goals exact ⟨rfl, HB5.out⟩


set_option maxHeartbeats 8000000 in
set_option maxRecDepth 1000000 in
theorem rtested_go (hl : NRow w A n c l) {q a b : Nat} (hq : q < n) {x : S62} (hx : rd_T62 l (q : Int) = x) {k : Int} {v f tA tB : Bool} (hk : x.f0 = k) (ha : k ≠ 1 → x.f2 = (a : Int)) (hb : two k → x.f3 = (b : Int)) (HF : Lr w A n c 73 q f) (HA : k ≠ 1 → Lr w A n c 41 a tA) (HB : two k → Lr w A n c 41 b tB)
  (hc : (f = true ∧ v = true) ∨ (k = 2 ∧ f = false ∧ v = tA) ∨ (k = 1 ∧ f = false ∧ v = false) ∨ (k = 5 ∧ f = false ∧ v = false) ∨ (k = 6 ∧ f = false ∧ v = false) ∨ (k = 8 ∧ f = false ∧ v = false) ∨ (k = 3 ∧ f = false ∧ tA = false ∧ v = false) ∨ (k = 3 ∧ f = false ∧ tA = true ∧ v = tB) ∨ (k = 4 ∧ f = false ∧ tA = false ∧ v = false) ∨ (k = 4 ∧ f = false ∧ tA = true ∧ v = tB)) : Lr w A n c 41 q v := by
 intro w0 hw0
 have hu := Tryz.underlying62
 have hcap := hl.cap
 have hq1 : (0 : Int) ≤ (q : Int) := by omega
 have hq2 : (q : Int) < (n : Int) := by omega
 have H0 := Aside0.mk (HF.up hw0)
 clear HF
 rcases hc with ⟨rfl, rfl⟩ | hc
 ·clear hl ha hb HA HB hw0 hx hq
  go_enter Tryz.func41, Tryz.ntmps41
  go_wp2_with (first
   | (go_at_call 73; with_reducible refine (H0.out _ (Go.RowKit.Below.refl _ _)).mono ?_; rintro e w3 ⟨rfl, hb⟩; have HB0 := Aside0.mk hb; clear hb)
   | fail)
  go_ret
  exact ⟨rfl, HB0.out⟩
 rcases hc with ⟨rfl, rfl, rfl⟩ | ⟨rfl, rfl, rfl⟩ | ⟨rfl, rfl, rfl⟩ | ⟨rfl, rfl, rfl⟩ | ⟨rfl, rfl, rfl⟩ | ⟨rfl, rfl, rfl, rfl⟩ | ⟨rfl, rfl, rfl, rfl⟩ | ⟨rfl, rfl, rfl, rfl⟩ | ⟨rfl, rfl, rfl, rfl⟩
 all_goals (
  (try have ha' := ha (by decide))
  (try have hb' := hb (by decide))
  (try have H1 := Aside0.mk ((HA (by decide)).up hw0))
  (try have H2 := Aside0.mk ((HB (by decide)).up hw0))
  clear ha hb HA HB
  go_enter Tryz.func41, Tryz.ntmps41
  go_upto_region 3 with (first
   | (go_at_call 73; with_reducible refine (H0.out _ (Go.RowKit.Below.refl _ _)).mono ?_; rintro e w3 ⟨rfl, hb⟩; have HB1 := Aside0.mk hb; clear hb)
   | fail)
  obtain ⟨ad, A2, c2, eA, y0, y1, y2, y3, y4, y5, y6⟩ := at_T62 ((hl.below hw0).below HB1.out).C (q : Int) (by omega) (by omega)
  subst eA
  rw [hx] at y0 y1 y2 y3 y4
  rw [hk] at y0
  rw [show ((q : Int)).toNat * 5 = q * 5 by omega] at y0 y1 y2 y3 y4
  clear hl y5 y6 hx hq
  go_upto_region 4 with fail
  refine wp_world (fun V => V.cell? ⟨w3.heap.size, 0, none⟩ = some (.int .i64 x.f0) ∧ V.cell? ⟨w3.heap.size, 3, none⟩ = some (.int .i64 x.f2) ∧ V.cell? ⟨w3.heap.size, 4, none⟩ = some (.int .i64 x.f3) ∧ Go.RowKit.Below w0.heap.size w0 V) ⟨by simp [hk], by first | (simp; done) | simp [ha'], by first | (simp; done) | simp [hb'], HB1.out.alloc HB1.out.size _⟩ ?_
  clear y0 y1 y2 y3 y4
  rintro w1 ⟨z0, z3, z4, hb1⟩
  have HB0 := Aside0.mk hb1
  clear hb1
  rw [hk] at z0
  (try rw [ha'] at z3)
  (try rw [hb'] at z4)
  generalize w3.heap.size = g0 at z0 z3 z4
  go_wp2_with (first
   | (go_at_call 41; with_reducible refine (H1.out _ HB0.out).mono ?_; rintro e w5 ⟨rfl, hb⟩; replace HB0 := Aside0.mk (HB0.out.trans (hb.mono HB0.out.size)); replace z3 := mvc hb z3; replace z4 := mvc hb z4; clear hb)
   | (go_at_call 41; with_reducible refine (H2.out _ HB0.out).mono ?_; rintro e w5 ⟨rfl, hb⟩; replace HB0 := Aside0.mk (HB0.out.trans (hb.mono HB0.out.size)); replace z3 := mvc hb z3; replace z4 := mvc hb z4; clear hb)
   | fail)
  go_ret
  exact ⟨rfl, HB0.out⟩)


set_option maxHeartbeats 8000000 in
set_option maxRecDepth 1000000 in
theorem rtested7 (hl : NRow w A n c l) {q a a2 a3 b2 : Nat} (hq : q < n) (han : a < n) {x y z : S62} (hx : rd_T62 l (q : Int) = x) (hk : x.f0 = 7) (ha : x.f2 = (a : Int)) (HF : Lr w A n c 73 q false) (hy : rd_T62 l (a : Int) = y) (hy2 : y.f2 = (a2 : Int)) (hz : rd_T62 l (a2 : Int) = z) {v v2 v3 tB : Bool} {sa sb : List ByteArray} (H2 : y.f0 = 2 → Lr w A n c 73 a2 v2) (H4 : y.f0 = 4 → a2 < n ∧ y.f3 = (b2 : Int) ∧ Lr w A n c 41 b2 tB ∧ Rv w A n c b2 sb) (H5 : y.f0 = 4 → z.f0 = 2 → z.f2 = (a3 : Int) ∧ Lr w A n c 73 a3 v3 ∧ Rv w A n c a3 sa) (hs : sb.length ≤ 1000000 ∧ sa.length ≤ 1000000)
  (hc : (y.f0 = 2 ∧ v = v2) ∨ (y.f0 ≠ 2 ∧ y.f0 ≠ 4 ∧ v = false) ∨ (y.f0 = 4 ∧ z.f0 ≠ 2 ∧ v = false) ∨ (y.f0 = 4 ∧ z.f0 = 2 ∧ v3 = false ∧ v = false) ∨ (y.f0 = 4 ∧ z.f0 = 2 ∧ v3 = true ∧ tB = false ∧ v = false) ∨ (y.f0 = 4 ∧ z.f0 = 2 ∧ v3 = true ∧ tB = true ∧ v = allB sb sa)) : Lr w A n c 41 q v := by
 intro w0 hw0
 have hu := Tryz.underlying62
 have mixed : Tryz.prog.follows .mixedOrders = true := by kernel_rfl
 have hcap := hl.cap
 have hq1 : (0 : Int) ≤ (q : Int) := by omega
 have hq2 : (q : Int) < (n : Int) := by omega
 have ha1 : (0 : Int) ≤ (a : Int) := by omega
 have ha2 : (a : Int) < (n : Int) := by omega
 have H0 := Aside0.mk (HF.up hw0)
 clear HF
 go_enter Tryz.func41, Tryz.ntmps41
 go_upto_region 3 with (first
  | (go_at_call 73; with_reducible refine (H0.out _ (Go.RowKit.Below.refl _ _)).mono ?_; rintro e w3 ⟨rfl, hb⟩; have HB1 := Aside0.mk hb; clear hb)
  | fail)
 obtain ⟨ad, A2, c2, eA, y0, y1, y2, y3, y4, y5, y6⟩ := at_T62 ((hl.below hw0).below HB1.out).C (q : Int) (by omega) (by omega)
 subst eA
 rw [hx] at y0 y1 y2 y3 y4
 rw [hk] at y0
 rw [show ((q : Int)).toNat * 5 = q * 5 by omega] at y0 y1 y2 y3 y4
 clear y5 y6 hx hq
 go_upto_region 4 with fail
 refine wp_world (fun V => V.cell? ⟨w3.heap.size, 0, none⟩ = some (.int .i64 x.f0) ∧ V.cell? ⟨w3.heap.size, 3, none⟩ = some (.int .i64 x.f2) ∧ Go.RowKit.Below w0.heap.size w0 V) ⟨by simp [hk], by first | (simp; done) | simp [ha], HB1.out.alloc HB1.out.size _⟩ ?_
 clear y0 y1 y2 y3 y4
 rintro w1 ⟨z0, z3, hb1⟩
 have HB0 := Aside0.mk hb1
 clear hb1 HB1
 rw [hk] at z0
 rw [ha] at z3
 generalize w3.heap.size = g0 at z0 z3
 obtain ⟨ad', A3, c3, eA, y0, y1, y2, y3, y4, y5, y6⟩ := at_T62 ((hl.below hw0).below HB0.out).C (a : Int) (by omega) (by omega)
 obtain rfl : ad = ad' := Option.some.inj eA
 rw [hy] at y0 y1 y2 y3 y4
 rw [show ((a : Int)).toNat * 5 = a * 5 by omega] at y0 y1 y2 y3 y4
 clear y5 y6 hy han
 go_upto_region 12 with fail
 refine wp_world (fun V => V.cell? ⟨w1.heap.size, 0, none⟩ = some (.int .i64 y.f0) ∧ V.cell? ⟨w1.heap.size, 3, none⟩ = some (.int .i64 y.f2) ∧ V.cell? ⟨w1.heap.size, 4, none⟩ = some (.int .i64 y.f3) ∧ Go.RowKit.Below w0.heap.size w0 V) ⟨by simp, by first | (simp; done) | simp [hy2], by simp, HB0.out.alloc HB0.out.size _⟩ ?_
 clear y0 y1 y2 y3 y4 z0 z3 eA
 rintro w2 ⟨z0, z3, z4, hb2⟩
 replace HB0 := Aside0.mk hb2
 clear hb2
 rw [hy2] at z3
 generalize w1.heap.size = g1 at z0 z3 z4
 rcases hc with ⟨h2, rfl⟩ | ⟨h2, h4, rfl⟩ | hc
 ·rw [h2] at z0
  have H1 := Aside0.mk ((H2 h2).up hw0)
  clear H2 H4 H5
  go_wp2_with (first
   | (go_at_call 73; with_reducible refine (H1.out _ HB0.out).mono ?_; rintro e w5 ⟨rfl, hb⟩; replace HB0 := Aside0.mk (HB0.out.trans (hb.mono HB0.out.size)); clear hb)
   | fail)
  go_ret
  exact ⟨rfl, HB0.out⟩
 ·have d2 : (y.f0 == 2) = false := by simp [h2]
  have d4 : (y.f0 == 4) = false := by simp [h4]
  clear H2 H4 H5 hs h2 h4
  generalize y.f0 = ky at *
  have r0 := cell_regrown z0
  have r3 := cell_regrown z3
  have r4 := cell_regrown z4
  go_upto_region 14 with fail
  refine wp_region_quiet_below mixed (by kernel_rfl) ?_
  repeat (first | go_big_quiet_step (fail) | quiet_step (fail))
  refine wpQuiet_nil ?_
  intro _ hw'
  obtain ⟨⟨dq, osq⟩, hw''⟩ := hw'
  subst hw''
  go_wp2
  go_ret
  exact ⟨rfl, HB0.out.trans ((below_regrown w2 dq osq).mono HB0.out.size)⟩
 have h4 : y.f0 = 4 := by rcases hc with h | h | h | h <;> exact h.1
 obtain ⟨h2n, hyb, HT, HV⟩ := H4 h4
 have a2z : (0 : Int) ≤ (a2 : Int) := by omega
 have a2n : (a2 : Int) < (n : Int) := by omega
 rw [h4] at z0
 rw [hyb] at z4
 obtain ⟨ad', A4, c4, eA, p0, p1, p2, p3, p4, p5, p6⟩ := at_T62 ((hl.below hw0).below HB0.out).C (a2 : Int) (by omega) (by omega)
 obtain rfl : ad = ad' := Option.some.inj eA
 rw [hz] at p0 p3
 rw [show ((a2 : Int)).toNat * 5 = a2 * 5 by omega] at p0 p3
 clear p1 p2 p4 p5 p6 H2 H4 hl hz eA
 replace hc : (z.f0 ≠ 2 ∧ v = false) ∨ (z.f0 = 2 ∧ v3 = false ∧ v = false) ∨ (z.f0 = 2 ∧ v3 = true ∧ tB = false ∧ v = false) ∨ (z.f0 = 2 ∧ v3 = true ∧ tB = true ∧ v = allB sb sa) := by
  rcases hc with h | h | h | h
  ·exact .inl h.2
  ·exact .inr (.inl h.2)
  ·exact .inr (.inr (.inl h.2))
  ·exact .inr (.inr (.inr h.2))
 have H1 := Aside0.mk (HT.up hw0)
 have W1 := Aside0.mk (HV.up hw0)
 clear HT HV
 rcases hc with ⟨h2, rfl⟩ | hc
 ·have d2 : (z.f0 == 2) = false := by simp [h2]
  clear h2 H1 W1 hs H5
  generalize z.f0 = kz at *
  generalize z.f2 = fz at *
  have r0 := cell_regrown z0
  have r3 := cell_regrown z3
  have r4 := cell_regrown z4
  have s0 := cell_regrown p0
  have s3 := cell_regrown p3
  go_upto_region 14 with fail
  refine wp_region_quiet_below mixed (by kernel_rfl) ?_
  repeat (first | go_big_quiet_step (fail) | quiet_step (fail))
  refine wpQuiet_nil ?_
  intro _ hw'
  obtain ⟨⟨dq, osq⟩, hw''⟩ := hw'
  subst hw''
  go_wp2
  go_ret
  exact ⟨rfl, HB0.out.trans ((below_regrown w2 dq osq).mono HB0.out.size)⟩
 have h2 : z.f0 = 2 := by rcases hc with h | h | h <;> exact h.1
 obtain ⟨hz2, HFz, HVz⟩ := H5 h4 h2
 have H3 := Aside0.mk (HFz.up hw0)
 have W2 := Aside0.mk (HVz.up hw0)
 rw [h2] at p0
 rw [hz2] at p3
 have HS1 := Aside0.mk hs
 clear H5 HFz HVz h4 hyb hy2 hz2 ha hk hw0 hs
 rcases hc with ⟨_, rfl, rfl⟩ | ⟨_, rfl, rfl, rfl⟩ | ⟨_, rfl, rfl, rfl⟩
 iterate 2 (focus (
  clear W1 W2
  have r0 := cell_regrown z0
  have r3 := cell_regrown z3
  have r4 := cell_regrown z4
  have s0 := cell_regrown p0
  have s3 := cell_regrown p3
  have c1 := H1.out.re w2 HB0.out
  have c2 := H3.out.re w2 HB0.out
  go_upto_region 14 with fail
  refine wp_region_quiet_below mixed (by kernel_rfl) ?_
  repeat (first | go_big_quiet_step (first | with_reducible exact c1 _ _ | with_reducible exact c2 _ _) | quiet_step (first | with_reducible exact c1 _ _ | with_reducible exact c2 _ _))
  refine wpQuiet_nil ?_
  intro _ hw'
  obtain ⟨⟨dq, osq⟩, hw''⟩ := hw'
  subst hw''
  go_wp2
  go_ret
  exact ⟨rfl, HB0.out.trans ((below_regrown w2 dq osq).mono HB0.out.size)⟩))
 have K1 := Aside0.mk (H3.out.one HB0.out)
 have K2 := H1
 go_upto_region 14 with fail
 go_region_held3 (fun w' => w'.cell? ⟨g1, 0, none⟩ = some (.int .i64 4) ∧ w'.cell? ⟨g1, 3, none⟩ = some (.int .i64 (a2 : Int)) ∧ w'.cell? ⟨g1, 4, none⟩ = some (.int .i64 (b2 : Int)) ∧ w'.cell? (ad.add (a2 * 5)) = some (.int .i64 2) ∧ w'.cell? ⟨(ad.add (a2 * 5)).block, (ad.add (a2 * 5)).off + 3, none⟩ = some (.int .i64 (a3 : Int))) (first | go_keep | assumption)
  (first
   | (go_at_call 73; (with_reducible refine K1.out.mono ?_); rintro e w4 ⟨rfl, hb⟩; have HB1 := Aside0.mk (HB0.out.trans (hb.mono HB0.out.size)); replace z0 := mvc hb z0; replace z3 := mvc hb z3; replace z4 := mvc hb z4; replace p0 := mvc hb p0; replace p3 := mvc hb p3; clear hb)
   | (go_at_call 41; (with_reducible refine (K2.out _ HB1.out).mono ?_); rintro e w5 ⟨rfl, hb⟩; have HB2 := Aside0.mk (HB1.out.trans (hb.mono HB1.out.size)); replace z0 := mvc hb z0; replace z3 := mvc hb z3; replace z4 := mvc hb z4; replace p0 := mvc hb p0; replace p3 := mvc hb p3; clear hb)
   | (go_at_call 43; (with_reducible refine (W1.out _ HB2.out).mono ?_); rintro e w6 ⟨V1, v1c, rfl, hS, hb⟩; have HB3 := Aside0.mk (HB2.out.trans (hb.mono HB2.out.size)); have S1 := Aside0.mk (SC.of hS rfl); replace z0 := mvc hb z0; replace z3 := mvc hb z3; replace z4 := mvc hb z4; replace p0 := mvc hb p0; replace p3 := mvc hb p3; clear hb hS)
   | (go_at_call 43; (with_reducible refine (W2.out _ HB3.out).mono ?_); rintro e w7 ⟨V2, v2c, rfl, hS, hb⟩; have HB4 := Aside0.mk (HB3.out.trans (hb.mono HB3.out.size)); have S2 := Aside0.mk (SC.of hS rfl); have S1b := Aside0.mk (S1.out.below hb); replace z0 := mvc hb z0; replace z3 := mvc hb z3; replace z4 := mvc hb z4; replace p0 := mvc hb p0; replace p3 := mvc hb p3; clear hb hS)
   | (go_at_call 42; (with_reducible refine (cAll HS1.out.1 HS1.out.2 (S1b.out.C HS1.out.1) S1b.out.cap (S2.out.C HS1.out.2) S2.out.cap).mono ?_); rintro e w8 ⟨rfl, hb⟩; have HB5 := Aside0.mk (HB4.out.trans (hb.mono HB4.out.size)); replace z0 := mvc hb z0; replace z3 := mvc hb z3; replace z4 := mvc hb z4; replace p0 := mvc hb p0; replace p3 := mvc hb p3; clear hb)
   | fail)
 all_goals go_wp2
 all_goals go_ret
 all_goals exact ⟨rfl, HB5.out⟩
end
end Go.Proofs.YtghommaokdhjmaaGreat.Sat
/- Each node of a right formula: what the code's and the reference's looks answer there: the same. -/
namespace Go.Proofs.YtghommaokdhjmaaGreat.Sat
open Go.RowKit Go.Lib Go.Sort Go.Proofs.SymP Go.Proofs.YtghommaokdhjmaaGreatW.PrintWords P FactC IRow Frm SpecM SpecB PSat PSpec CmpF BothB SortStr Str
theorem right_fr {l : List S62} (h : chkN l = 0) {fr dp : List Int} (hq : fromsP l 0 [] [] = some (fr, dp)) : Right l fr := by
 unfold chkN at h
 split at h
 ·cases h
 ·rename_i hn
  rw [hq] at h
  simp only at h
  split at h
  ·cases h
  ·obtain ⟨h1, h2, _, h4⟩ := froms_ok l 0 [] [] fr dp hq okF_nil rfl
   refine ⟨h1, by omega, by omega, by omega, by omega, fun j hj => ?_⟩
   have := h4 j hj
   rwa [Nat.zero_add] at this
theorem froms_node : ∀ (l : List S62) (i : Nat) (fr dp : List Int) (r : List Int × List Int), fromsP l i fr dp = some r → ∀ x ∈ l, (x.f0 = 1 → x.f2 = 0) ∧ (x.f0 = 2 → x.f1.f1 = []) := by
 intro l
 induction l with
 | nil => intro _ _ _ _ _ x hx; simp at hx
 | cons y l ih =>
  intro i fr dp r h x hx
  simp only [fromsP] at h
  rcases hs : stepN y i fr dp with _ | ⟨a, b⟩
  ·rw [hs] at h; cases h
  ·rw [hs] at h
   rcases List.mem_cons.1 hx with rfl | hx
   ·unfold stepN at hs
    refine ⟨fun h1 => ?_, fun h1 => ?_⟩
    ·rw [if_pos (show arms x.f0 = 0 by rw [h1]; rfl)] at hs
     split at hs
     ·cases hs
     ·omega
    ·rw [if_neg (show ¬ arms x.f0 = 0 by rw [h1]; decide), if_pos (show arms x.f0 = 1 by rw [h1]; decide)] at hs
     split at hs
     ·cases hs
     ·rename_i hn
      have h4 : emptyA x.f1 = true := by
       cases he : emptyA x.f1
       ·exact absurd (.inr (.inr (.inr he))) hn
       ·rfl
      unfold emptyA at h4
      rw [Bool.and_eq_true] at h4
      have h5 := h4.2
      exact List.eq_nil_of_length_eq_zero (by simpa using h5)
   ·exact ih _ _ _ _ h x hx
theorem subN_neg {l : List S62} {fr : List Int} (hr : Right l fr) {a a3 : Nat} (ha : a < l.length) (hk : l[a].f0 = 2) (he : l[a].f1.f1 = []) (h3 : l[a].f2 = (a3 : Int)) : subN l fr a = subN l fr a3 := by
 have hR := hr.rel a ha
 have h1 : arms l[a].f0 = 1 := by rw [hk]; decide
 rcases hR with ⟨h, _⟩ | ⟨_, h4, h5, h6⟩ | ⟨h, _⟩
 ·omega
 ·have h7 : a = a3 + 1 := by omega
  subst h7
  have h8 := (hr.ok a3 (by rw [hr.len]; omega))
  unfold subN
  rw [h6, Nat.add_sub_cancel, List.take_succ_eq_append_getElem ha, List.drop_append_of_le_length (by rw [List.length_take]; omega)]
  unfold varsN
  rw [List.flatMap_append]
  simp [he, varsL]
 ·omega
theorem allB_iff {xs ys : List ByteArray} : allB xs ys = true ↔ ∀ s ∈ xs, s ∈ ys := by
 unfold allB
 rw [List.all_eq_true]
 constructor
 ·intro h s hs
  obtain ⟨y, hy, e⟩ := List.any_eq_true.1 (h s hs)
  rw [of_decide_eq_true e]; exact hy
 ·intro h s hs
  exact List.any_eq_true.2 ⟨s, h s hs, by simp⟩
theorem allB_sort (xs ys : List ByteArray) : allB (sortO xs) (sortO ys) = allB xs ys := by
 rw [Bool.eq_iff_iff, allB_iff, allB_iff]
 exact ⟨fun h s hs => sortO_mem.1 (h s (sortO_mem.2 hs)), fun h s hs => sortO_mem.2 (h s (sortO_mem.1 hs))⟩
theorem sortO_up (xs : List ByteArray) : upS (sortO xs) := Fct.setO_up Fct.ordS xs
theorem texts_sort (xs ys : List ByteArray) : decide (sortO xs = sortO ys) = (allB xs ys && allB ys xs) := by
 rw [Bool.eq_iff_iff, decide_eq_true_eq, Bool.and_eq_true, allB_iff, allB_iff]
 constructor
 ·intro h
  exact ⟨fun s hs => sortO_mem.1 (h ▸ sortO_mem.2 hs), fun s hs => sortO_mem.1 (h ▸ sortO_mem.2 hs)⟩
 ·rintro ⟨h1, h2⟩
  exact Fct.setO_one Fct.ordS (sortO_up xs) fun s => ⟨fun h => h1 s (sortO_mem.1 h), fun h => sortO_mem.2 (h2 s h)⟩
theorem sortO_len (xs : List ByteArray) : (sortO xs).length ≤ xs.length := Fct.setO_len xs
theorem subN_len {l : List S62} {fr : List Int} (hf : fitNs l) (hl : l.length ≤ 40) (q : Nat) : (subN l fr q).length ≤ 40000 := by
 unfold subN
 have h1 : ∀ x ∈ (l.take (q + 1)).drop (fr.getD q 0).toNat, x.f1.f1.length ≤ 1000 := fun x hx => (hf.1 x (List.mem_of_mem_take (List.mem_of_mem_drop hx))).2
 have h2 : ((l.take (q + 1)).drop (fr.getD q 0).toNat).length ≤ 40 := by rw [List.length_drop, List.length_take]; omega
 generalize (l.take (q + 1)).drop (fr.getD q 0).toNat = m at h1 h2
 have h3 : ∀ m : List S62, (∀ x ∈ m, x.f1.f1.length ≤ 1000) → (varsN m).length ≤ 1000 * m.length := by
  intro m
  induction m with
  | nil => intro _; simp [varsN]
  | cons x m ih =>
   intro h
   have h4 := ih (fun y hy => h y (List.mem_cons_of_mem _ hy))
   have h5 := h x List.mem_cons_self
   have h6 := varsL_len x.f1.f1 []
   unfold varsN at h4 ⊢
   rw [List.flatMap_cons, List.length_append, List.length_cons]
   simp at h6
   omega
 have := h3 m h1
 omega
section
variable {w : World} {A : Option Addr} {n c : Nat} {l : List S62}
theorem looks2 (h : NRow w A n c l) (hf : fitNs l) (hk : chkN l = 0) : ∀ q, q < n → ∃ f t a1 : Bool, (Lk w A n c 101 q f ∧ Lk w A n c 69 q t ∧ Lk w A n c 102 q a1) ∧ Lr w A n c 73 q f ∧ Lr w A n c 41 q t ∧ (∀ p, p < n → (rd_T62 l (p : Int)).f0 = 7 → (rd_T62 l (p : Int)).f2 = (q : Int) → Lr w A n c 73 p false → Lr w A n c 41 p a1) := by
 obtain ⟨fr, dp, hfr, _, _, _⟩ := chk_froms hk
 have hin := (chk_inL hk).1
 have hR := right_fr hk hfr
 have hnode := froms_node l 0 [] [] _ hfr
 have hn := h.len
 have hl40 := hR.le
 have hsl : ∀ j, (sortO (subN l fr j)).length ≤ 1000000 := fun j => by have := sortO_len (subN l fr j); have := subN_len hf hl40 (fr := fr) j; omega
 intro q
 induction q using Nat.strongRecOn with
 | ind q ih =>
  intro hq
  have hI := hin q (by omega)
  rw [← rd62_get (by omega)] at hI
  have hN := hnode l[q] (List.getElem_mem (by omega))
  rw [← rd62_get (by omega)] at hN
  obtain ⟨x, hx⟩ : ∃ x, rd_T62 l (q : Int) = x := ⟨_, rfl⟩
  rw [hx] at hI hN
  obtain ⟨i2, i3, k1, k8⟩ := hI
  -- the node's arms
  obtain ⟨a, b, ha, hb⟩ : ∃ a b : Nat, (x.f0 ≠ 1 → x.f2 = (a : Int) ∧ a < q) ∧ (two x.f0 → x.f3 = (b : Int) ∧ b < q) := ⟨x.f2.toNat, x.f3.toNat, fun h => by have := i2 h; omega, fun h => by have := i3 h; omega⟩
  have t1 : two x.f0 → x.f0 ≠ 1 := fun h => by unfold two at h; omega
  obtain ⟨vA, tA, aA, cA⟩ : ∃ f t a1 : Bool, (x.f0 ≠ 1 → (Lk w A n c 101 a f ∧ Lk w A n c 69 a t ∧ Lk w A n c 102 a a1) ∧ Lr w A n c 73 a f ∧ Lr w A n c 41 a t ∧ (∀ p, p < n → (rd_T62 l (p : Int)).f0 = 7 → (rd_T62 l (p : Int)).f2 = (a : Int) → Lr w A n c 73 p false → Lr w A n c 41 p a1)) := by
   by_cases h1 : x.f0 = 1
   ·exact ⟨true, true, true, fun h => absurd h1 h⟩
   ·obtain ⟨f, t, a1, h2⟩ := ih a (ha h1).2 (by have := (ha h1).2; omega)
    exact ⟨f, t, a1, fun _ => h2⟩
  obtain ⟨vB, tB, hAB, hBA, cB, cR, eB⟩ : ∃ f t h1 h2 : Bool, (two x.f0 → Lk w A n c 101 b f ∧ Lk w A n c 69 b t ∧ Lh w A n c a b h1 ∧ Lh w A n c b a h2) ∧ (two x.f0 → Lr w A n c 73 b f ∧ Lr w A n c 41 b t) ∧ (two x.f0 → h1 = allB (subN l fr a) (subN l fr b) ∧ h2 = allB (subN l fr b) (subN l fr a)) := by
   by_cases h1 : two x.f0
   ·have h2 := (ha (t1 h1)).2
    have h3 := (hb h1).2
    obtain ⟨f, t, _, ⟨e1, e2, _⟩, e3, e4, _⟩ := ih b h3 (by omega)
    exact ⟨f, t, _, _, fun _ => ⟨e1, e2, holds_look h hf hk hfr (by omega) (by omega), holds_look h hf hk hfr (by omega) (by omega)⟩, fun _ => ⟨e3, e4⟩, fun _ => ⟨rfl, rfl⟩⟩
   ·exact ⟨true, true, true, true, fun h => absurd h h1, fun h => absurd h h1, fun h => absurd h h1⟩
  have hkk : x.f0 = 1 ∨ x.f0 = 2 ∨ x.f0 = 3 ∨ x.f0 = 4 ∨ x.f0 = 5 ∨ x.f0 = 6 ∨ x.f0 = 7 ∨ x.f0 = 8 := by omega
  obtain ⟨f, cf, rf, f7⟩ : ∃ f, Lk w A n c 101 q f ∧ Lr w A n c 73 q f ∧ (x.f0 = 7 ∨ x.f0 = 2 → f = false) := by
   have go := fun v => @found_go w A n c l h q a b hq x hx x.f0 v vA vB hAB hBA tA tB rfl (fun h => (ha h).1) (fun h => (hb h).1) (fun h => (cA h).1.1) (fun h => ⟨(cB h).1, (cA (t1 h)).1.2.1, (cB h).2.1, (cB h).2.2.1, (cB h).2.2.2⟩)
   have go2 := fun v => @rfound_go w A n c l h q a b hq x hx x.f0 v vA vB tA tB (sortO (subN l fr a)) (sortO (subN l fr b)) rfl (fun h => (ha h).1) (fun h => (hb h).1) (fun h => (cA h).2.1) (fun h2 => ⟨(cR h2).1, (cA (t1 h2)).2.2.1, (cR h2).2, rvars_calls h hf hR (by have := (ha (t1 h2)).2; omega), rvars_calls h hf hR (by have := (hb h2).2; omega)⟩) ⟨hsl _, hsl _⟩
   refine ⟨if x.f0 = 1 then true else if x.f0 = 5 ∨ x.f0 = 6 then vA else if x.f0 = 3 then vA && (hBA && tB) else if x.f0 = 4 then vA && (vB && (hAB && hBA)) else if x.f0 = 8 then vB && (hAB && tA) else false, go _ ?_, go2 _ ?_, fun h => by rcases h with h | h <;> simp [h]⟩
   ·clear go go2 cA cB cR ih ha hb t1 i2 i3 hN eB
    generalize x.f0 = k at *
    rcases hkk with rfl | rfl | rfl | rfl | rfl | rfl | rfl | rfl <;> cases vA <;> cases vB <;> cases hAB <;> cases hBA <;> simp
   ·rw [allB_sort, allB_sort, texts_sort]
    clear go go2 cA cB cR ih ha hb t1 i2 i3 hN
    generalize x.f0 = k at *
    generalize allB (subN l fr a) (subN l fr b) = s1 at *
    generalize allB (subN l fr b) (subN l fr a) = s2 at *
    rcases hkk with rfl | rfl | rfl | rfl | rfl | rfl | rfl | rfl
    ·simp
    ·simp
    ·obtain ⟨rfl, rfl⟩ := eB (by decide)
     cases vA <;> cases tB <;> simp
    ·obtain ⟨rfl, rfl⟩ := eB (by decide)
     cases vA <;> cases vB <;> simp
    ·simp
    ·simp
    ·simp
    ·obtain ⟨rfl, rfl⟩ := eB (by decide)
     cases vB <;> cases tA <;> simp
  obtain ⟨t, ct, rt⟩ : ∃ t, Lk w A n c 69 q t ∧ Lr w A n c 41 q t := by
   have go := fun v => @tested_go w A n c l h q a b hq x hx x.f0 v f aA tA tB rfl (fun h => (ha h).1) (fun h => (hb h).1) cf (fun h => (cA h).1.2) (fun h => (cB h).2.1)
   have go2 := fun v => @rtested_go w A n c l h q a b hq x hx x.f0 v f tA tB rfl (fun h => (ha h).1) (fun h => (hb h).1) rf (fun h => (cA h).2.2.1) (fun h => (cR h).2)
   refine ⟨if x.f0 = 2 then tA else if x.f0 = 3 ∨ x.f0 = 4 then (tA && tB) || f else if x.f0 = 7 then aA else f, go _ ?_, ?_⟩
   ·clear go go2 cA cB cR ih ha hb t1 i2 i3 hN eB cf rf f7
    generalize x.f0 = k at *
    rcases hkk with rfl | rfl | rfl | rfl | rfl | rfl | rfl | rfl <;> cases tA <;> cases tB <;> simp
   ·by_cases h7 : x.f0 = 7
    ·rw [if_neg (by omega), if_neg (by omega), if_pos h7]
     have h8 := (ha (by omega)).1
     exact (cA (by omega)).2.2.2 q hq (by rw [hx]; exact h7) (by rw [hx]; exact h8) (by rw [f7 (.inl h7)] at rf; exact rf)
    ·refine go2 _ ?_
     clear go go2 cA cB cR ih ha hb t1 i2 i3 hN eB cf rf
     generalize x.f0 = k at *
     rcases hkk with rfl | rfl | rfl | rfl | rfl | rfl | rfl | rfl
     ·cases f <;> simp
     ·obtain rfl := f7 (.inr rfl)
      simp
     ·cases f <;> cases tA <;> simp
     ·cases f <;> cases tA <;> simp
     ·cases f <;> simp
     ·cases f <;> simp
     ·exact absurd rfl h7
     ·cases f <;> simp
  by_cases h4 : x.f0 = 4
  ·have hw : two x.f0 := by unfold two; omega
   obtain ⟨e1, e2⟩ := ha (t1 hw)
   obtain ⟨e3, e4⟩ := hb hw
   have hJ := hin a (by omega)
   rw [← rd62_get (by omega)] at hJ
   have hM := hnode l[a] (List.getElem_mem (by omega))
   have hneg := fun a3 => @subN_neg l fr hR a a3 (by omega)
   rw [← rd62_get (by omega)] at hM hneg
   obtain ⟨y, hy⟩ : ∃ y, rd_T62 l (a : Int) = y := ⟨_, rfl⟩
   rw [hy] at hJ hM hneg
   by_cases h2 : y.f0 = 2
   ·have h6 := hJ.1 (by omega)
    obtain ⟨a3, ha3⟩ : ∃ a3 : Nat, y.f2 = (a3 : Int) := ⟨y.f2.toNat, by omega⟩
    obtain ⟨vN, _, _, ⟨e5, _⟩, e6, _⟩ := ih a3 (by omega) (by omega)
    refine ⟨f, t, vN && (hBA && tB), ⟨cf, ct, @always_or w A n c l h q a b a3 hq (by omega) x y hx h4 e1 e3 hy (fun _ => ha3) _ vN hBA tB (fun _ => e5) (cB hw).2.2.2 (cB hw).2.1 ?_⟩, rf, rt, fun p hp h7 hpa hpf => @rtested7 w A n c l h p q a a3 b hp hq _ x y rfl h7 hpa hpf hx e1 hy _ true vN tB (sortO (subN l fr a3)) (sortO (subN l fr b)) (fun h => absurd h (by omega)) (fun _ => ⟨by omega, e3, (cR hw).2, rvars_calls h hf hR (by omega)⟩) (fun _ _ => ⟨ha3, e6, rvars_calls h hf hR (by omega)⟩) ⟨hsl _, hsl _⟩ ?_⟩
    ·cases vN <;> cases hBA <;> simp [h2]
    ·rw [allB_sort, ← hneg a3 h2 (hM.2 h2) ha3, ← (eB hw).2]
     cases vN <;> cases tB <;> simp [h2, h4]
   ·exact ⟨f, t, false, ⟨cf, ct, @always_or w A n c l h q a b 0 hq (by omega) x y hx h4 e1 e3 hy (fun h => absurd h h2) _ true hBA tB (fun h => absurd h h2) (cB hw).2.2.2 (cB hw).2.1 (.inl ⟨h2, rfl⟩)⟩, rf, rt, fun p hp h7 hpa hpf => @rtested7 w A n c l h p q a 0 b hp hq _ x y rfl h7 hpa hpf hx e1 hy _ true true tB (sortO (subN l fr b)) (sortO (subN l fr b)) (fun h => absurd h (by omega)) (fun _ => ⟨by omega, e3, (cR hw).2, rvars_calls h hf hR (by omega)⟩) (fun _ h => absurd h h2) ⟨hsl _, hsl _⟩ (.inr (.inr (.inl ⟨h4, h2, rfl⟩)))⟩
  ·obtain ⟨a2, ha2⟩ : ∃ a2 : Nat, x.f2 = (a2 : Int) := by
    by_cases h1 : x.f0 = 1
    ·exact ⟨0, by rw [hN.1 h1]; rfl⟩
    ·exact ⟨a, (ha h1).1⟩
   refine ⟨f, t, _, ⟨cf, ct, always_no h hq hx rfl (fun h => (ha h).1) (fun h => (cA (by omega)).1.1) h4 k1 k8⟩, rf, rt, fun p hp h7 hpa hpf => @rtested7 w A n c l h p q a2 0 0 hp hq _ x _ rfl h7 hpa hpf hx ha2 rfl _ vA true true [] [] (fun h2 => ?_) (fun h => absurd h h4) (fun h => absurd h h4) ⟨by simp, by simp⟩ ?_⟩
   ·have := (ha (by omega)).1
    obtain rfl : a2 = a := by omega
    exact (cA (by omega)).2.1
   ·by_cases h2 : x.f0 = 2
    ·rw [if_pos h2]; exact .inl ⟨h2, rfl⟩
    ·rw [if_neg h2]; exact .inr (.inl ⟨h2, h4, rfl⟩)
end
end Go.Proofs.YtghommaokdhjmaaGreat.Sat
