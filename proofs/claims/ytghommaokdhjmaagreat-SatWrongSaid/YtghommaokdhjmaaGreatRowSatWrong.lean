/- The row of SatWrong, and what it rests on; no condition. -/
import Derived.Test.YtghommaokdhjmaaGreatDYD1
import Derived.ChangeSame
import Derived.ChangeArms
import Derived.Test.YtghommaokdhjmaaGreatRows
import Derived.WalkKit
import Derived.ProofKit
import Derived.OpenShut
import Derived.ShutString
import Derived.ChangeOld
import Derived.Below
import Derived.SizedLaws
set_option linter.unusedVariables false
set_option linter.unusedSimpArgs false
namespace Go.Proofs.YtghommaokdhjmaaGreat.P
open Go.RowKit Go.Proofs.YtghommaokdhjmaaGreatW.PrintWords Go.Proofs.YtghommaokdhjmaaGreatW.PrintLast Gate

end Go.Proofs.YtghommaokdhjmaaGreat.P
/- The printed functions of layer 5 and of its statements answer their plain forms from some number of rounds on; texts no longer than a million bytes. -/
namespace Go.Proofs.YtghommaokdhjmaaGreat.SpecB
open Go.Shelf Go.RowKit Go.Lib Go.Sort Go.Proofs.SymP Go.Proofs.YtghommaokdhjmaaGreatW.PrintWords Go.Proofs.YtghommaokdhjmaaGreatW.PrintLast Gate P Str PSpec BothB
def heavyX (x : S66) : Bool := decide (200 < x.f0.size) || decide (200 < x.f1.f2.size)
def heavyP (l : List S66) : Bool := decide (110 < l.length) || l.any heavyX
def bY : S66 := ⟨⟨#[89]⟩, ⟨1, 1, ⟨#[]⟩⟩⟩
def bX2 : S66 := ⟨⟨#[88]⟩, ⟨1, 2, ⟨#[]⟩⟩⟩
def bE : S66 := ⟨⟨#[]⟩, ⟨0, 0, ⟨#[]⟩⟩⟩
end Go.Proofs.YtghommaokdhjmaaGreat.SpecB
/- What the statements' witness is, plainly. -/
namespace Go.Proofs.YtghommaokdhjmaaGreat.Sat
open Go.RowKit Go.Lib Go.Sort Go.Proofs.SymP Go.Proofs.YtghommaokdhjmaaGreatW.PrintWords P FactC IRow Frm SpecM SpecB PSat PSpec CmpF BothB SortStr Str
theorem con_size (t : S92) : con t ↔ t.f0.size = 0 := by
 unfold con
 rw [ByteArray.toList_eq]
 constructor
 ·intro h; have := congrArg List.length h; simpa using this
 ·intro h; exact List.length_eq_zero_iff.1 (by simpa using h)
theorem varP_size {s : ByteArray} (h : varP s = true) : 1 ≤ s.size := by
 unfold varP at h
 simp only [Bool.and_eq_true, decide_eq_true_eq] at h
 exact h.1.1.1.1
theorem term_var {s : ByteArray} (h : varP s = true) : termP ⟨s, ⟨0, 0, ⟨#[]⟩⟩⟩ = true := by
 have hc : ¬ con ⟨s, ⟨0, 0, ⟨#[]⟩⟩⟩ := fun hc => by
  have h3 : s.size = 0 := (con_size _).1 hc
  have h2 := varP_size h
  omega
 unfold termP
 rw [if_neg (show ¬ s.toList = [] from hc)]
 show (varP s && _) = true
 rw [h, ne_toList]; rfl
def tX : S92 := ⟨⟨#[88]⟩, ⟨0, 0, ⟨#[]⟩⟩⟩
def v1 : S64 := ⟨1, 1, ⟨#[]⟩⟩
def nQ : ByteArray := ⟨#[113]⟩
def nR : ByteArray := ⟨#[114]⟩
def nA : ByteArray := ⟨#[97]⟩
def xQ : S62 := ⟨1, ⟨nQ, [tX]⟩, 0, 0⟩
def xO : S62 := ⟨6, ⟨⟨#[]⟩, []⟩, 0, 0⟩
def fQ : S58 := ⟨nQ, [v1]⟩
def fR : S58 := ⟨nR, [v1]⟩
def bX : S66 := ⟨⟨#[88]⟩, v1⟩
theorem name_q : nameP nQ = true := by decide +kernel
theorem name_r : nameP nR = true := by decide +kernel
theorem name_a : nameP nA = true := by decide +kernel
theorem term_X : termP tX = true := term_var (by decide +kernel)
theorem mat_q : matP nQ [tX] = 0 := mat_zero.2 ⟨name_q, by simp, fun t ht => by rw [List.mem_singleton.1 ht]; exact term_X⟩
theorem mat_r : matP nR [tX] = 0 := mat_zero.2 ⟨name_r, by simp, fun t ht => by rw [List.mem_singleton.1 ht]; exact term_X⟩
theorem val_v1 : valP v1.f0 v1.f1 v1.f2 = 0 := valP_int (by decide) (by decide)
theorem fact_q : factP nQ [v1] = 0 := fact_zero.2 ⟨name_q, by simp, fun t ht => by rw [List.mem_singleton.1 ht]; exact val_v1⟩
theorem fact_r : factP nR [v1] = 0 := fact_zero.2 ⟨name_r, by simp, fun t ht => by rw [List.mem_singleton.1 ht]; exact val_v1⟩
theorem con_X : ¬ con tX := fun h => by have := (con_size _).1 h; exact absurd this (by decide)
theorem right_bX : rightP bX = true := by unfold rightP; rw [show varP bX.f0 = true by decide +kernel, show valP bX.f1.f0 bX.f1.f1 bX.f1.f2 = 0 from valP_int (by decide) (by decide)]; rfl
theorem step_q (fr dp : List Int) : stepN xQ 0 fr dp = some (0, 1) := by
 unfold stepN
 rw [if_pos (show arms xQ.f0 = 0 by decide), if_neg]
 ·rfl
 ·rintro (h | h | h)
  ·exact h rfl
  ·exact h rfl
  ·exact h mat_q
theorem step_o : stepN xO 1 [0] [1] = some (0, 2) := by
 unfold stepN
 rw [if_neg (show ¬ arms xO.f0 = 0 by decide), if_pos (show arms xO.f0 = 1 by decide), if_neg]
 ·rfl
 ·rintro (h | h | h | h)
  ·exact absurd h (by decide)
  ·exact h rfl
  ·exact h rfl
  ·exact absurd h (by decide +kernel)
theorem chk_q : chkN [xQ] = 0 := by
 unfold chkN
 rw [if_neg (by simp)]
 simp [fromsP, step_q]
theorem chk_qo : chkN [xQ, xO] = 0 := by
 unfold chkN
 rw [if_neg (by simp)]
 simp [fromsP, step_q, step_o]
theorem tr_w : trP [fQ, fR] = 0 := by
 unfold trP
 rw [if_neg (by simp)]
 simp only [trL]
 rw [if_pos (show factP fQ.f0 fQ.f1 = 0 from fact_q), if_pos (show factP fR.f0 fR.f1 = 0 from fact_r)]
theorem chk_b : chkP [bX] = 0 := right_one right_bX
theorem vars_X : SpecM.varsL [] [tX] = [tX.f0] := by
 rw [SpecM.varsL, if_neg con_X, if_neg (by simp), List.nil_append, SpecM.varsL]
theorem varsN_q : varsN [xQ] = [tX.f0] := by unfold varsN; simp only [List.flatMap_cons, List.flatMap_nil, List.append_nil]; exact vars_X
theorem varsN_qo : varsN [xQ, xO] = [tX.f0] := by
 unfold varsN
 simp only [List.flatMap_cons, List.flatMap_nil, List.append_nil]
 rw [show SpecM.varsL [] xO.f1.f1 = [] from rfl, show SpecM.varsL [] xQ.f1.f1 = [tX.f0] from vars_X]; rfl
theorem get_X : getP [bX] tX.f0 = (1, 1, ⟨#[]⟩, true) := by rw [getP, if_pos (show bX.f0 = tX.f0 from rfl)]; rfl
theorem gr_X (a : ByteArray) (h : matP a [tX] = 0) : groundP a [tX] [bX] = (a, [v1], 0) := by
 unfold groundP
 have hg : grL [bX] [tX] = some [v1] := by
  rw [grL, if_neg con_X, get_X, if_pos rfl]; rfl
 rw [if_pos h, if_pos chk_b, hg]
theorem ev_0 : evP [fQ, fR] [bX] xQ.f1 0 = true := by
 unfold evP
 rw [show groundP xQ.f1.f0 xQ.f1.f1 [bX] = (nQ, [v1], 0) from gr_X nQ mat_q]
 decide +kernel
theorem ev_1 : evP [fQ, fR] [bX] xQ.f1 1 = false := by
 unfold evP
 rw [show groundP xQ.f1.f0 xQ.f1.f1 [bX] = (nQ, [v1], 0) from gr_X nQ mat_q]
 decide +kernel
theorem sem_q : semP (evP [fQ, fR] [bX]) [xQ] 1 = false := ev_1
theorem sem_qo : semP (evP [fQ, fR] [bX]) [xQ, xO] 1 = true := by
 have h : semP (evP [fQ, fR] [bX]) [xQ, xO] 1 = onceR (evP [fQ, fR] [bX] xQ.f1) 1 := rfl
 rw [h]
 simp [onceR, ev_0]
theorem unb_q : unbP [xQ] [bX] = false := by unfold unbP; rw [varsN_q]; simp [get_X]
theorem unb_qo : unbP [xQ, xO] [bX] = false := by unfold unbP; rw [varsN_qo]; simp [get_X]
theorem unb_no : unbP [xQ, xO] [] = true := by unfold unbP; rw [varsN_qo]; simp [getP]
theorem hE_qo : holdsE [xQ, xO] [fQ, fR] 1 [bX] = 0 := by
 unfold holdsE; rw [if_neg (by simp [chk_qo]), if_neg (by simp [tr_w]), if_neg (by simp [chk_b]), if_neg (by simp), if_neg (by simp [unb_qo])]
theorem hV_qo : holdsV [xQ, xO] [fQ, fR] 1 [bX] = true := by unfold holdsV; rw [if_pos hE_qo]; exact sem_qo
theorem hE_q : holdsE [xQ] [fQ, fR] 1 [bX] = 0 := by
 unfold holdsE; rw [if_neg (by simp [chk_q]), if_neg (by simp [tr_w]), if_neg (by simp [chk_b]), if_neg (by simp), if_neg (by simp [unb_q])]
theorem hV_q : holdsV [xQ] [fQ, fR] 1 [bX] = false := by unfold holdsV; rw [if_pos hE_q]; exact sem_q
theorem hE_no : holdsE [xQ, xO] [fQ, fR] 1 [] = 5 := by
 unfold holdsE; rw [if_neg (by simp [chk_qo]), if_neg (by simp [tr_w]), if_neg (by simp [right_nil]), if_neg (by simp), if_pos unb_no]
theorem one_r : oneP nR [tX] nR [v1] [] = ([bX], true) :=
 oneP_fit mat_r fact_r rfl rfl ⟨right_nil, right_one right_bX, fun p hp hc => by
  have : p = (tX, v1) := by simpa using hp
  subst this
  exact absurd hc con_X, fun x => by
  constructor
  ·intro h
   exact .inr ⟨(tX, v1), by simp, con_X, by rw [List.mem_singleton.1 h]; rfl⟩
  ·rintro (h | ⟨p, hp, _, rfl⟩)
   ·simp at h
   ·have : p = (tX, v1) := by simpa using hp
    subst this
    exact List.mem_singleton.2 rfl⟩
theorem fit_q : fitNs [xQ] := ⟨fun x hx => by rw [List.mem_singleton.1 hx]; exact ⟨⟨by decide, by decide⟩, by decide⟩, by decide⟩
theorem fit_qo : fitNs [xQ, xO] := ⟨fun x hx => by
 rcases List.mem_cons.1 hx with rfl | hx
 ·exact ⟨⟨by decide, by decide⟩, by decide⟩
 ·rw [List.mem_singleton.1 hx]; exact ⟨⟨by decide, by decide⟩, by decide⟩, by decide⟩
theorem fit_t : ∀ y ∈ [fQ, fR], fitF y := fun y hy => by
 rcases List.mem_cons.1 hy with rfl | hy
 ·exact ⟨by decide, by decide, by decide⟩
 ·rw [List.mem_singleton.1 hy]; exact ⟨by decide, by decide, by decide⟩
end Go.Proofs.YtghommaokdhjmaaGreat.Sat
namespace Go.Proofs.YtghommaokdhjmaaGreat.P
open Go.RowKit Go.Proofs.YtghommaokdhjmaaGreatW.PrintWords Go.Proofs.YtghommaokdhjmaaGreatW.PrintLast Gate

def constablelaw25_p.f (a0 : ByteArray) : Option (Int × ByteArray × (List (S92)) × Int × Int) := some (1, a0, (([(⟨(⟨#[88]⟩ : ByteArray), (⟨0, 0, (⟨#[]⟩ : ByteArray)⟩ : S64)⟩ : S92)] : List (S92))), 0, 0)
set_option maxHeartbeats 8000000 in
set_option maxRecDepth 100000 in
theorem constablelaw25_p.calls (a0 : ByteArray) (r1 : Int) (r2 : ByteArray) (r3 : List (S92)) (r4 : Int) (r5 : Int) (w : World) (h : constablelaw25_p.f a0 = some (r1, r2, r3, r4, r5)) :
  Calls Tryz.prog 55 #[.string a0] w fun e w' => ∃ v2_ : Value, e = .returned (.agg #[.int .i64 r1, .string r2, v2_, .int .i64 r4, .int .i64 r5]) ∧ Kd.R k92 92 w' w.heap.size (fun _ => True) v2_ r3 ∧ Below w.heap.size w w' := by
 have hu62 := Tryz.underlying62
 have hu92 := Tryz.underlying92
 have hu25 := Tryz.underlying25
 have HB := Aside0.mk (Below.refl w.heap.size w)
 have H : (some (1, a0, (([(⟨(⟨#[88]⟩ : ByteArray), (⟨0, 0, (⟨#[]⟩ : ByteArray)⟩ : S64)⟩ : S92)] : List (S92))), 0, 0)) = some (r1, r2, r3, r4, r5) := h
 clear h
 obtain ⟨y405, hy405⟩ : ∃ y_ : List (S92), y_ = (([(⟨(⟨#[88]⟩ : ByteArray), (⟨0, 0, (⟨#[]⟩ : ByteArray)⟩ : S64)⟩ : S92)] : List (S92))) := ⟨_, rfl⟩
 replace H : (some (1, a0, y405, 0, 0)) = some (r1, r2, r3, r4, r5) := by first | (rw [hy405]; with_reducible exact H) | (have H2_ := (Option.bind_some _ _).symm.trans H; rw [hy405]; with_reducible exact H2_) | (have H2_ := (Option.bind_some _ _).symm.trans H; with_reducible exact H2_) | with_reducible exact H | (rw [hy405]; exact H) | exact H
 have Ny405 := Aside0.mk hy405
 clear hy405
 simp only [Option.some.injEq, Prod.mk.injEq] at H
 obtain ⟨rfl, rfl, rfl, rfl, rfl⟩ := H
 go_enter Tryz.func55, Tryz.ntmps55
 go_wp2_with (first | ((with_reducible refine gate_dst (N := 2) rfl ?_); refine bE (N := 2) (cs := #[.int .i64 0, .string (⟨#[]⟩ : ByteArray), .slice none 0 0, .int .i64 0, .int .i64 0]) (t := 62) ?_; intro gb404 hg w2 hbox hb; have n0_ := Aside0.mk (below_step bB0 hb); have n1_ := Aside0.mk (hbox); have n2_ := Aside0.mk ((by rw [hg]; exact (below_size bB0) : w.heap.size ≤ gb404)); have n3_ := Aside0.mk ((by rw [hg]; exact (below_size bB0) : w.heap.size ≤ gb404)); clear HB; have HB := n0_; have BK404 := n1_; have GW404 := n2_; have GE404 := n3_; clear n0_ n1_ n2_ n3_; clear hb hbox hg) | ((with_reducible refine gate_dst (N := 5) rfl ?_); refine Kd.R_lit k92 _ 92 ?hg (N := 5) ?hd (xs := ([(⟨(⟨#[88]⟩ : ByteArray), (⟨0, 0, (⟨#[]⟩ : ByteArray)⟩ : S64)⟩ : S92)] : List (S92))) (inner := [.string (⟨#[88]⟩ : ByteArray), .int .i64 0, .int .i64 0, .string (⟨#[]⟩ : ByteArray)]) (ok := fun _ => True) (okp := fun _ => True) ?hr ?hp (fun _ hk => hk) trivial (Below.refl _ _) (Nat.le_refl _) (by simp) ?_; (case hd => rfl); (case hg => rfl); (case hr => first | (go_simp; done) | (go_simp; rfl)); (case hp => exact (Reps.c4 (show Kd.M k92 _ _ _ (⟨(⟨#[88]⟩ : ByteArray), (⟨0, 0, (⟨#[]⟩ : ByteArray)⟩ : S64)⟩ : S92) [.string (⟨#[88]⟩ : ByteArray), .int .i64 0, .int .i64 0, .string (⟨#[]⟩ : ByteArray)] from (k92_mkM _ _ _ (⟨(⟨#[88]⟩ : ByteArray), (⟨0, 0, (⟨#[]⟩ : ByteArray)⟩ : S64)⟩ : S92) )) (Reps.none _ _))); intro v406 w3 ho4 hb hg_ hnew_; clear hg_ hnew_; (first | rw [← Ny405.out] at ho4 | (simp only [Int.reduceToNat] at ho4; rw [← Ny405.out] at ho4)); have n0_ := Aside0.mk (Kd.R_lower ho4 (below_size (bB1 GE404.out))); have n1_ := Aside0.mk (blk_below (g := gb404) (o := .cells #[.int .i64 0, .string (⟨#[]⟩ : ByteArray), .slice none 0 0, .int .i64 0, .int .i64 0] 62 (0, 0)) (by refine bk ?_; exact BK404.out) hb); have n2_ := Aside0.mk (below_step (bB1 GE404.out) hb); clear BK404; clear HB; have HO407 := n0_; have BK404 := n1_; have HB := n2_; clear n0_ n1_ n2_; clear hb ho4; obtain ⟨Ao5, co5, eo5⟩ := Kd.R_slice HO407.out; subst eo5; have hcz6_0 : w3.cell? ⟨gb404, 0, none⟩ = some (.int .i64 0) := (blk_cell BK404.out 0).trans rfl; have hcz6_1 : w3.cell? ⟨gb404, 1, none⟩ = some (.string (⟨#[]⟩ : ByteArray)) := (blk_cell BK404.out 1).trans rfl; have hcz6_2 : w3.cell? ⟨gb404, 2, none⟩ = some (.slice none 0 0) := (blk_cell BK404.out 2).trans rfl; have hcz6_3 : w3.cell? ⟨gb404, 3, none⟩ = some (.int .i64 0) := (blk_cell BK404.out 3).trans rfl; have hcz6_4 : w3.cell? ⟨gb404, 4, none⟩ = some (.int .i64 0) := (blk_cell BK404.out 4).trans rfl; have hfz6_0 := blk_frozen BK404.out 0; have hfz6_1 := blk_frozen BK404.out 1; have hfz6_2 := blk_frozen BK404.out 2; have hfz6_3 := blk_frozen BK404.out 3; have hfz6_4 := blk_frozen BK404.out 4))
 refine bodyPost_ret (results_cell_row rfl _ _ gb404 62 #[.int .i64 1, .string a0, .slice Ao5 y405.length co5, .int .i64 0, .int .i64 0] (0, 0) _ rfl (by refine bk ?_; refine blk_put (cs := #[.int .i64 1, .string a0, .slice Ao5 y405.length co5, .int .i64 0, .int .i64 0]) ?_ 4 _ rfl; refine bk ?_; refine blk_put (cs := #[.int .i64 1, .string a0, .slice Ao5 y405.length co5, .int .i64 0, .int .i64 0]) ?_ 3 _ rfl; refine bk ?_; refine blk_put (cs := #[.int .i64 1, .string a0, .slice none 0 0, .int .i64 0, .int .i64 0]) ?_ 2 _ rfl; refine bk ?_; refine blk_put (cs := #[.int .i64 1, .string (⟨#[]⟩ : ByteArray), .slice none 0 0, .int .i64 0, .int .i64 0]) ?_ 1 _ rfl; refine bk ?_; refine blk_put (cs := #[.int .i64 0, .string (⟨#[]⟩ : ByteArray), .slice none 0 0, .int .i64 0, .int .i64 0]) ?_ 0 _ rfl; refine bk ?_; exact BK404.out) Tryz.underlying62 rfl (by kernel_rfl)) rfl ?_
 exact ⟨_, eW, by (with_reducible repeat (first | apply Kd.R_alloc | apply Kd.R_drewN | apply Kd.R_drew)); exact Kd.R_mono (Kd.R_far (p := ⟨gb404, 4, none⟩) (Kd.R_far (p := ⟨gb404, 3, none⟩) (Kd.R_far (p := ⟨gb404, 2, none⟩) (Kd.R_far (p := ⟨gb404, 1, none⟩) (Kd.R_far (p := ⟨gb404, 0, none⟩) (Kd.R_types HO407.out BK404.out (by decide)) (fun _ hk => hk.2) (.int .i64 1)) (fun _ hk => hk.2) (.string a0)) (fun _ hk => hk.2) (.slice Ao5 y405.length co5)) (fun _ hk => hk.2) (.int .i64 0)) (fun _ hk => hk.2) (.int .i64 0)) (fun _ hk => trivial), (bB1 GE404.out)⟩

end Go.Proofs.YtghommaokdhjmaaGreat.P
/- The statements' witness, walked: it answers true. -/
namespace Go.Proofs.YtghommaokdhjmaaGreat.Sat
open Go.RowKit Go.Lib Go.Sort Go.Proofs.SymP Go.Proofs.YtghommaokdhjmaaGreatW.PrintWords P FactC IRow Frm SpecM SpecB PSat PSpec CmpF BothB SortStr Str
theorem rb {α : Type} {R : α → List Value → Prop} {size g : Nat} {ty : TypeId} {W : World} {cs : Array Value} {ps : List α} {n : Nat} (hg : W.heap[g]? = some (.cells cs ty (0, 0))) (hr : Reps R size ps cs.toList) (hn : ps.length = n) (hl : n ≤ 1000000) : ReadsRow R size W (some ⟨g, 0, none⟩) n ps := by
 subst hn
 refine ⟨rfl, by omega, fun _ => ⟨_, rfl, fun j p hj => ⟨(cs.toList.drop (j * size)).take size, ?_, hr.2 j p hj, fun i u hu => ?_⟩⟩⟩
 ·have hjl := (List.getElem?_eq_some_iff.1 hj).1
  have h1 := hr.1
  have h2 : (j + 1) * size ≤ ps.length * size := Nat.mul_le_mul_right _ hjl
  rw [Nat.add_mul, Nat.one_mul] at h2
  rw [List.length_take, List.length_drop]
  omega
 ·rw [Addr.add_lit, blk_cell hg, ← Array.getElem?_toList]
  rw [List.getElem?_take, List.getElem?_drop] at hu
  split at hu
  ·rw [Nat.zero_add]; exact hu
  ·cases hu
theorem first_row {W : World} {g n c : Nat} {x : S62} {l : List S62} (h : NRow W (some ⟨g, 0, none⟩) n c (x :: l)) : NRow W (some ⟨g, 0, none⟩) 1 c [x] := by
 have hl := h.len
 have hc := h.cap
 simp only [List.length_cons] at hl
 refine ⟨rfl, by omega, rfl, by omega, fun _ => ?_⟩
 obtain ⟨ad, e, hr⟩ := h.C.2.2 (by omega)
 refine ⟨ad, e, fun j p hj => ?_⟩
 rcases j with _ | j
 ·exact hr 0 p (by simpa using hj)
 ·simp at hj
theorem p_calls {w : World} (s : ByteArray) : Calls Tryz.prog 55 #[.string s] w fun e w' => ∃ A c, e = .returned (.agg #[.int .i64 1, .string s, .slice A 1 c, .int .i64 0, .int .i64 0]) ∧ 1 ≤ c ∧ Kd.C k92 w' A 1 [tX] ∧ Go.RowKit.Below w.heap.size w w' := by
 refine (constablelaw25_p.calls s 1 s [tX] 0 0 w rfl).mono ?_
 rintro e w' ⟨v, rfl, hR, hb⟩
 obtain ⟨A, c, rfl, h1, h2⟩ := Kd.R_reads hR
 exact ⟨A, c, rfl, h1, h2, hb⟩
theorem tC {W : World} {g : Nat} (h : W.heap[g]? = some (.cells #[.int .i64 1, .int .i64 1, .string ⟨#[]⟩] 64 (0, 0))) : Kd.C k64 W (some ⟨g, 0, none⟩) 1 [v1] := rb h (Reps.c3 (k64_mk W v1) (Reps.none _ _)) rfl (by decide)
theorem bC {W : World} {g : Nat} (h : W.heap[g]? = some (.cells #[.string ⟨#[88]⟩, .int .i64 1, .int .i64 1, .string ⟨#[]⟩] 66 (0, 0))) : BRow W (some ⟨g, 0, none⟩) 1 1 [bX] := ⟨rfl, Nat.le_refl _, rb h (Reps.c4 (k66_mk W bX) (Reps.none _ _)) rfl (by decide)⟩
theorem fC {W : World} {g g1 g2 : Nat} (h : W.heap[g]? = some (.cells #[.string ⟨#[113]⟩, .slice (some ⟨g1, 0, none⟩) 1 1, .string ⟨#[114]⟩, .slice (some ⟨g2, 0, none⟩) 1 1] 58 (0, 0))) (h1 : Kd.C k64 W (some ⟨g1, 0, none⟩) 1 [v1]) (h2 : Kd.C k64 W (some ⟨g2, 0, none⟩) 1 [v1]) : TRow W (some ⟨g, 0, none⟩) 2 2 [fQ, fR] :=
 ⟨rfl, Nat.le_refl _, rb h (Reps.c2 (k58_mk W fQ (A1 := some ⟨g1, 0, none⟩) (c1 := 1) (Nat.le_refl _) h1) (Reps.c2 (k58_mk W fR (A1 := some ⟨g2, 0, none⟩) (c1 := 1) (Nat.le_refl _) h2) (Reps.none _ _))) rfl (by decide)⟩
theorem nC {W : World} {g c : Nat} {A : Option Addr} (h : W.heap[g]? = some (.cells #[.int .i64 1, .string ⟨#[113]⟩, .slice A 1 c, .int .i64 0, .int .i64 0, .int .i64 6, .string ⟨#[]⟩, .slice none 0 0, .int .i64 0, .int .i64 0] 62 (0, 0))) (hc : 1 ≤ c) (h1 : Kd.C k92 W A 1 [tX]) : NRow W (some ⟨g, 0, none⟩) 2 2 [xQ, xO] :=
 ⟨rfl, Nat.le_refl _, rb h (Reps.c5 (k62_mk W xQ (A2 := A) (c2 := c) hc h1) (Reps.c5 (k62_mk W xO (A2 := none) (c2 := 0) (Nat.le_refl _) ⟨rfl, Nat.zero_le _, fun h => absurd (show 0 < 0 from h) (Nat.lt_irrefl 0)⟩) (Reps.none _ _))) rfl (by decide)⟩
theorem field_atom (W : World) (s : ByteArray) (A : Option Addr) (c : Nat) : (Instr.field 62 (.agg #[.int .i64 1, .string s, .slice A 1 c, .int .i64 0, .int .i64 0]) 1).run Tryz.prog W = .ok (.agg #[.string s, .slice A 1 c]) W := by kernel_rfl
theorem al1 (W : World) (a b : Obj) : ((W.alloc a).alloc b).heap[W.heap.size + 1]? = some b := by have := blk_new (W.alloc a) b; simpa using this
theorem al2 (W : World) (a b c : Obj) : (((W.alloc a).alloc b).alloc c).heap[W.heap.size + 2]? = some c := by have := blk_new ((W.alloc a).alloc b) c; simpa using this
set_option maxHeartbeats 8000000 in
set_option maxRecDepth 1000000 in
theorem wakes_calls (w : World) : Calls Tryz.prog 24 #[] w fun e w' => e = .returned (.bool true) ∧ Go.RowKit.Below w.heap.size w w' := by
 have hu1 := Tryz.underlying64
 have hu2 := Tryz.underlying58
 have hu3 := Tryz.underlying66
 have hu4 := Tryz.underlying62
 go_enter Tryz.func24, Tryz.ntmps24
 go_upto_region 2 with fail
 refine wp_world (fun V => V.cell? ⟨w.heap.size, 0, none⟩ = some (.int .i64 1) ∧ V.cell? ⟨w.heap.size, 1, none⟩ = some (.int .i64 1) ∧ V.cell? ⟨w.heap.size, 2, none⟩ = some (.string ⟨#[]⟩) ∧ Go.RowKit.Below w.heap.size w V) ⟨by simp, by simp, by simp, (Go.RowKit.Below.refl _ w).alloc (Nat.le_refl _) _⟩ ?_
 rintro w1 ⟨z0, z1, z2, hb1⟩
 have q0 := cell_al (.cells #[.int .i64 1, .int .i64 1, .string ⟨#[]⟩] 64) z0
 have q1 := cell_al (.cells #[.int .i64 1, .int .i64 1, .string ⟨#[]⟩] 64) z1
 have q2 := cell_al (.cells #[.int .i64 1, .int .i64 1, .string ⟨#[]⟩] 64) z2
 have HB1 := Aside0.mk hb1
 clear hb1
 go_upto_region 3 with fail
 have hbA : Go.RowKit.Below w1.heap.size w1 (((w1.alloc (.cells #[.int .i64 1, .int .i64 1, .string ⟨#[]⟩] 64)).alloc (.cells #[.int .i64 1, .int .i64 1, .string ⟨#[]⟩] 64)).alloc (.cells #[.string ⟨#[113]⟩, .slice (some ⟨w1.heap.size, 0, none⟩) 1 1, .string ⟨#[114]⟩, .slice (some ⟨w1.heap.size + 1, 0, none⟩) 1 1] 58)) := by repeat (first | exact Go.RowKit.Below.refl _ _ | apply below_alloc)
 refine wp_world (fun V => TRow V (some ⟨w1.heap.size + 1 + 1, 0, none⟩) 2 2 [fQ, fR] ∧ V.cell? ⟨w.heap.size, 0, none⟩ = some (.int .i64 1) ∧ V.cell? ⟨w.heap.size, 1, none⟩ = some (.int .i64 1) ∧ V.cell? ⟨w.heap.size, 2, none⟩ = some (.string ⟨#[]⟩) ∧ Go.RowKit.Below w.heap.size w V)
  ⟨fC (al2 w1 _ _ _) (tC (((((Go.RowKit.Below.refl _ (w1.alloc _)).alloc (Nat.le_refl _) _).alloc (by simp) _).block _ (by simp)).trans (blk_new w1 _))) (tC ((((Go.RowKit.Below.refl _ ((w1.alloc _).alloc _)).alloc (Nat.le_refl _) _).block _ (by simp)).trans (al1 w1 _ _))), (hbA.cell (World.block_lt_of_cell? _ _ z0)).trans z0, (hbA.cell (World.block_lt_of_cell? _ _ z1)).trans z1, (hbA.cell (World.block_lt_of_cell? _ _ z2)).trans z2, HB1.out.trans (hbA.mono HB1.out.size)⟩ ?_
 generalize w1.heap.size + 1 + 1 = gt
 clear z0 z1 z2 q0 q1 q2 hbA HB1
 rintro w2 ⟨hT, z0, z1, z2, hb2⟩
 have HT := Aside0.mk hT
 have HB2 := Aside0.mk hb2
 clear hT hb2
 go_upto_region 4 with fail
 have hbB : Go.RowKit.Below w2.heap.size w2 (w2.alloc (.cells #[.string ⟨#[88]⟩, .int .i64 1, .int .i64 1, .string ⟨#[]⟩] 66)) := (Go.RowKit.Below.refl _ w2).alloc (Nat.le_refl _) _
 refine wp_world (fun V => TRow V (some ⟨gt, 0, none⟩) 2 2 [fQ, fR] ∧ BRow V (some ⟨w2.heap.size, 0, none⟩) 1 1 [bX] ∧ Go.RowKit.Below w.heap.size w V) ⟨HT.out.below hbB, bC (blk_new w2 _), HB2.out.trans (hbB.mono HB2.out.size)⟩ ?_
 generalize w2.heap.size = gb
 clear z0 z1 z2 hbB HT HB2
 rintro w3 ⟨hT, hB, hb3⟩
 have H3 := Aside0.mk (And.intro hT (And.intro hB hb3))
 clear hT hB hb3
 go_upto_region 5 with (go_at_call 55; with_reducible refine (p_calls _).mono ?_; rintro e w4 ⟨A, c, rfl, hc, hC, hb⟩; have H4 := Aside0.mk (And.intro hc (And.intro hC hb)); clear hc hC hb)
 have hbN : Go.RowKit.Below w4.heap.size w4 (w4.alloc (.cells #[.int .i64 1, .string ⟨#[113]⟩, .slice A 1 c, .int .i64 0, .int .i64 0, .int .i64 6, .string ⟨#[]⟩, .slice none 0 0, .int .i64 0, .int .i64 0] 62)) := (Go.RowKit.Below.refl _ w4).alloc (Nat.le_refl _) _
 refine wp_world (fun V => NRow V (some ⟨w4.heap.size, 0, none⟩) 2 2 [xQ, xO] ∧ TRow V (some ⟨gt, 0, none⟩) 2 2 [fQ, fR] ∧ BRow V (some ⟨gb, 0, none⟩) 1 1 [bX] ∧ Go.RowKit.Below w.heap.size w V)
  ⟨nC (blk_new w4 _) H4.out.1 (Kd.C_below H4.out.2.1 hbN), (H3.out.1.below H4.out.2.2).below hbN, (H3.out.2.1.below H4.out.2.2).below hbN, (H3.out.2.2.trans (H4.out.2.2.mono H3.out.2.2.size)).trans (hbN.mono (Nat.le_trans H3.out.2.2.size H4.out.2.2.size))⟩ ?_
 generalize w4.heap.size = gn
 clear hbN H3 H4
 rintro w5 ⟨hN, hT, hB, hb5⟩
 have HB5 := Aside0.mk hb5
 have C1 : Aside0 (∀ W, Go.RowKit.Below w5.heap.size w5 W → Calls Tryz.prog 14 #[.slice (some ⟨gn, 0, none⟩) 2 2, .slice (some ⟨gt, 0, none⟩) 2 2, .int .i64 1, .slice (some ⟨gb, 0, none⟩) 1 1] W fun e w' => e = .returned (.tuple #[.bool true, .int .i64 0]) ∧ Go.RowKit.Below W.heap.size W w') := ⟨fun W hW => by
  have := Holds_calls (i := 1) (hN.below hW) (hT.below hW) (hB.below hW) fit_qo (by decide) fit_t (by decide) (by decide)
  rwa [hV_qo, hE_qo] at this⟩
 have C2 : Aside0 (∀ W, Go.RowKit.Below w5.heap.size w5 W → Calls Tryz.prog 14 #[.slice (some ⟨gn, 0, none⟩) 1 2, .slice (some ⟨gt, 0, none⟩) 2 2, .int .i64 1, .slice (some ⟨gb, 0, none⟩) 1 1] W fun e w' => e = .returned (.tuple #[.bool false, .int .i64 0]) ∧ Go.RowKit.Below W.heap.size W w') := ⟨fun W hW => by
  have := Holds_calls (i := 1) (first_row (hN.below hW)) (hT.below hW) (hB.below hW) fit_q (by decide) fit_t (by decide) (by decide)
  rwa [hV_q, hE_q] at this⟩
 have C3 : Aside0 (∀ W, Go.RowKit.Below w5.heap.size w5 W → Calls Tryz.prog 14 #[.slice (some ⟨gn, 0, none⟩) 2 2, .slice (some ⟨gt, 0, none⟩) 2 2, .int .i64 1, .slice none 0 0] W fun e w' => (∃ q, e = .returned (.tuple #[.bool q, .int .i64 5])) ∧ Go.RowKit.Below W.heap.size W w') := ⟨fun W hW => by
  have := Holds_calls (i := 1) (b := []) (B := none) (bn := 0) (bc := 0) (hN.below hW) (hT.below hW) ⟨rfl, Nat.le_refl _, rfl, Nat.zero_le _, fun h => absurd (show 0 < 0 from h) (Nat.lt_irrefl 0)⟩ fit_qo (by decide) fit_t (by decide) (by decide)
  rw [hE_no] at this
  exact this.mono fun e w' h => ⟨⟨_, h.1⟩, h.2⟩⟩
 have C4 : Aside0 (∀ W A c, Go.RowKit.Below w5.heap.size w5 W → 1 ≤ c → Kd.C k92 W A 1 [tX] → Calls Tryz.prog 15 #[.agg #[.string ⟨#[97]⟩, .string ⟨#[114]⟩, .slice A 1 c, .slice (some ⟨gn, 0, none⟩) 1 2], .slice (some ⟨gt, 0, none⟩) 2 2, .int .i64 1] W fun e w' => (∃ V vc, e = .returned (.tuple #[.slice V 1 vc, .bool true, .int .i64 0]) ∧ 1 ≤ vc ∧ Kd.C k66 w' V 1 [bX]) ∧ Go.RowKit.Below W.heap.size W w') := ⟨fun W A c hW hc hC => by
  have hP : PatW W A (some ⟨gn, 0, none⟩) 1 c 2 [xQ] nA nR [tX] := ⟨first_row (hN.below hW), fit_q, hC, hc, ⟨by decide, by decide, by decide⟩, by decide⟩
  obtain ⟨z, _, hz2, hz⟩ := patternG hP
  obtain rfl : z = 0 := hz2 (by unfold rightB; rw [name_a, mat_r, chk_q]; rfl) (by unfold subB; rw [varsN_q, vars_X]; simp) rfl rfl
  exact wrongG (p := 1) hP hz (fun _ => chk_q) (hT.below hW) fit_t (by decide) tr_w (by decide) one_r (by decide) sem_q (.inr (.inr (.inr (.inr ⟨rfl, rfl, rfl, rfl, rfl, rfl, rfl⟩))))⟩
 have C5 : Aside0 (∀ W V vc, Go.RowKit.Below w5.heap.size w5 W → 1 ≤ vc → Kd.C k66 W V 1 [bX] → Calls Tryz.prog 20 #[.slice V 1 vc, .slice (some ⟨gb, 0, none⟩) 1 1] W fun e w' => e = .returned (.bool true) ∧ Go.RowKit.Below W.heap.size W w') := ⟨fun W V vc hW hc hC => by
  obtain ⟨k, hk⟩ := (ev_binds (a := [bX]) (by decide) [bX]).rounds
  rw [decide_eq_true rfl] at hk
  exact (constablekeep_Binds.calls k V vc [bX] (some ⟨gb, 0, none⟩) 1 [bX] true W hC hc (hB.below hW).C (Nat.le_refl _) hk).mono fun e w' h => ⟨h.1, h.2.below⟩⟩
 clear hN hT hB hb5
 have hr5 := Go.RowKit.Below.refl w5.heap.size w5
 have HR5 := Aside0.mk hr5
 clear hr5
 go_wp2_with (first
  | (go_at_call 14; with_reducible refine (C1.out _ HR5.out).mono ?_; rintro e w6 ⟨rfl, hb⟩; have HB6 := Aside0.mk (HR5.out.trans (hb.mono HR5.out.size)); clear hb C1)
  | (go_at_call 14; with_reducible refine (C2.out _ HB6.out).mono ?_; rintro e w7 ⟨rfl, hb⟩; have HB7 := Aside0.mk (HB6.out.trans (hb.mono HB6.out.size)); clear hb C2)
  | fail)
 have hfld := field_atom
 have C4' := Aside0.mk C4.out
 clear C4
 have hd7 : Go.RowKit.Below w7.heap.size w7 w7.drew := below_drew1 (Go.RowKit.Below.refl _ _)
 have HD7 := Aside0.mk (HB7.out.trans (hd7.mono HB7.out.size))
 clear hd7
 go_region_held3 (fun _ => True) (trivial)
  (first
   | (go_at_call 55; (with_reducible refine (p_calls _).mono ?_); rintro e w8 ⟨A', c', rfl, hc, hC, hb⟩; have HB8 := Aside0.mk (HD7.out.trans (hb.mono HD7.out.size)); have HC8 := Aside0.mk (And.intro hc hC); clear hc hC hb)
   | (go_at_call 15; (with_reducible refine (C4'.out _ _ _ HB8.out HC8.out.1 HC8.out.2).mono ?_); rintro e w9 ⟨⟨V, vc, rfl, hv⟩, hb⟩; have HB9 := Aside0.mk (HB8.out.trans (hb.mono HB8.out.size)); have HV9 := Aside0.mk hv; clear hv hb)
   | fail)
 all_goals (
  go_wp2_with (first
   | (go_at_call 14; with_reducible refine (C3.out _ HB9.out).mono ?_; rintro e w10 ⟨⟨q, rfl⟩, hb⟩; have HB10 := Aside0.mk (HB9.out.trans (hb.mono HB9.out.size)); have HV10 := Aside0.mk (And.intro HV9.out.1 (Kd.C_below HV9.out.2 hb)); clear hb)
   | (go_at_call 20; with_reducible refine (C5.out _ _ _ HB10.out HV10.out.1 HV10.out.2).mono ?_; rintro e w11 ⟨rfl, hb⟩; have HB11 := Aside0.mk (HB10.out.trans (hb.mono HB10.out.size)); clear hb)
   | fail)
  go_ret
  exact ⟨rfl, HB5.out.trans (HB11.out.mono HB5.out.size)⟩)
end Go.Proofs.YtghommaokdhjmaaGreat.Sat
namespace Go.Proofs.YtghommaokdhjmaaGreat.P
open Go.RowKit Go.Proofs.YtghommaokdhjmaaGreatW.PrintWords Go.Proofs.YtghommaokdhjmaaGreatW.PrintLast Gate

def constablelaw03_Many.l0 : Nat → List (S58) → Int → Option (Bool)
 | 0, _, _ => none
 | k + 1, x0, x3 => if x3 < (x0.length : Int) then (if 0 ≤ x3 then ((constablelaw03_Heavy.f k ((rd_T58 x0 x3).f0) ((rd_T58 x0 x3).f1)).bind fun t109 => (if t109 = true then (some true) else (constablelaw03_Many.l0 k x0 (wrap64 (x3 + 1))))) else (none)) else (some false)
def constablelaw03_Many.f (k : Nat) (l0 : List (S58)) : Option (Bool) := if (l0.length : Int) > 60 then (some true) else (constablelaw03_Many.l0 k l0 0)
set_option maxHeartbeats 8000000 in
set_option maxRecDepth 100000 in
theorem constablelaw03_Many.calls (k : Nat) (A0 : Option Addr) (c0 : Nat) (l0 : List (S58)) (r : Bool) (w : World) (hr0 : Kd.C k58 w A0 l0.length l0) (hc0 : l0.length ≤ c0) (h : constablelaw03_Many.f k l0 = some r) :
  Calls Tryz.prog 30 #[.slice A0 l0.length c0] w fun e w' => e = .returned (.bool r) ∧ Below w.heap.size w w' := by
 have hu58 := Tryz.underlying58
 have HR0 := Aside0.mk hr0
 have HC0 := Aside0.mk hc0
 clear hr0 hc0
 have HB := Aside0.mk (Below.refl w.heap.size w)
 have H : (if (l0.length : Int) > 60 then (some true) else (constablelaw03_Many.l0 k l0 0)) = some r := h
 clear h
 by_cases c2 : (l0.length : Int) > 60
 ·rw [if_pos c2] at H
  have c2b0 : decide (60 < (l0.length : Int)) = true := decide_eq_true c2
  have c2b1 : decide (60 < l0.length) = true := decide_eq_true (by omega)
  clear c2
  obtain rfl := Option.some.inj H
  go_enter Tryz.func30, Tryz.ntmps30
  go_wp2
  go_ret
  exact ⟨eW, bB0⟩
 ·rw [if_neg c2] at H
  have c2b0 : decide (60 < (l0.length : Int)) = false := decide_eq_false c2
  have c2b1 : decide (60 < l0.length) = false := decide_eq_false (by omega)
  clear c2
  have H' := Aside0.mk H
  clear H
  go_enter Tryz.func30, Tryz.ntmps30
  go_wp2
  go_loopg [3] k (fun kq v3 w' => ∃ (x3_1 : Int), v3 = .int .i64 x3_1 ∧ Aside0 (constablelaw03_Many.l0 kq l0 x3_1 = some r) ∧ Aside0 (kq ≤ k) ∧ Aside0 (Below w.heap.size w w'))
  case atStart => exact ⟨(0), (by first | rfl | (simp; done) | (simp [*]; done)), H', ⟨Nat.le_refl _⟩, ⟨bB0⟩⟩
  case round =>
   clear H'
   (try clear c2); (try clear c2b0); (try clear c2b1); (try clear p2)
   obtain ⟨x3_1, rfl, HA, HK1, HB⟩ := hrel
   cases gk with
   | zero => exact absurd HA.out (by simp [constablelaw03_Many.l0])
   | succ k1 =>
    have H := HA.out
    clear HA
    simp only [constablelaw03_Many.l0] at H
    by_cases c3 : x3_1 < (l0.length : Int)
    ·rw [if_pos c3] at H
     have c3b0 : decide (x3_1 < (l0.length : Int)) = true := decide_eq_true c3
     clear c3
     by_cases c4 : 0 ≤ x3_1
     ·rw [if_pos c4] at H
      have c4b0 : decide (0 ≤ x3_1) = true := decide_eq_true c4
      clear c4
      replace H := Option.bind_eq_some_iff.mp H
      obtain ⟨t109, A50, H⟩ := H
      replace H : (if t109 = true then (some true) else (constablelaw03_Many.l0 k1 l0 (wrap64 (x3_1 + 1)))) = some r := H
      have A5 := Aside0.mk A50
      clear A50
      by_cases c6 : t109 = true
      ·subst c6
       have H1 : (some true) = some r := by rw [if_pos rfl] at H; exact H
       clear H
       have H := H1
       clear H1
       obtain rfl := Option.some.inj H
       have p108 : 0 ≤ (x3_1 : Int) := of_decide_eq_true (by first | (with_reducible assumption) | assumption)
       have q108 : x3_1 < (l0.length : Int) := of_decide_eq_true (by first | (with_reducible assumption) | assumption)
       obtain ⟨ad108, A108_1, c108_1, e108, hx108_0, hx108_1, hl108_1, hi108_1⟩ := at_T58 HR0.out x3_1 p108 q108
       cases e108
       have HZ108_1 := Aside0.mk hx108_1
       replace hx108_0 := (HB.out.cell (World.block_lt_of_cell? w _ hx108_0)).trans hx108_0
       replace hx108_1 := (HB.out.cell (World.block_lt_of_cell? w _ hx108_1)).trans hx108_1
       have HR108_1 := Aside0.mk hi108_1
       have HC108_1 := Aside0.mk hl108_1
       clear hi108_1 hl108_1
       replace p108 := eq_true p108
       replace q108 := eq_true q108
       go_wp2_with (first | ((with_reducible refine gate_callee (f := 62) rfl ?_); refine goesL_ (some 17) rfl rfl Tryz.func62 (by kernel_rfl) rfl #[.agg #[.string ((rd_T58 l0 x3_1).f0), .slice A108_1 ((rd_T58 l0 x3_1).f1).length c108_1]] rfl aG ?_; (with_reducible refine (constablelaw03_Heavy.calls k1 ((rd_T58 l0 x3_1).f0) _ _ ((rd_T58 l0 x3_1).f1) true _ ?side1 ?side2 A5.out).mono ?_); (case side1 => exact sC (Kd.C_below HR108_1.out HB.out)); (case side2 => exact HC108_1.out); rintro e w7 ⟨rfl, hb⟩; refine ⟨_, rfl, ?_⟩; have n0_ := Aside0.mk (below_step bB0 hb); clear HB; have HB := n0_; clear n0_; (try clear hb); (try clear hb2); (try clear hk); (try clear hi)))
       go_ret
       exact ⟨eW, bB0⟩
      ·replace c6 := Bool.eq_false_iff.mpr c6
       subst c6
       have H1 : (constablelaw03_Many.l0 k1 l0 (wrap64 (x3_1 + 1))) = some r := by rw [if_neg (show ¬ (false = true) by decide)] at H; exact H
       clear H
       have H := H1
       clear H1
       have H' := Aside0.mk H
       clear H
       have p108 : 0 ≤ (x3_1 : Int) := of_decide_eq_true (by first | (with_reducible assumption) | assumption)
       have q108 : x3_1 < (l0.length : Int) := of_decide_eq_true (by first | (with_reducible assumption) | assumption)
       obtain ⟨ad108, A108_1, c108_1, e108, hx108_0, hx108_1, hl108_1, hi108_1⟩ := at_T58 HR0.out x3_1 p108 q108
       cases e108
       have HZ108_1 := Aside0.mk hx108_1
       replace hx108_0 := (HB.out.cell (World.block_lt_of_cell? w _ hx108_0)).trans hx108_0
       replace hx108_1 := (HB.out.cell (World.block_lt_of_cell? w _ hx108_1)).trans hx108_1
       have HR108_1 := Aside0.mk hi108_1
       have HC108_1 := Aside0.mk hl108_1
       clear hi108_1 hl108_1
       replace p108 := eq_true p108
       replace q108 := eq_true q108
       go_wp2_with (first | ((with_reducible refine gate_callee (f := 62) rfl ?_); refine goesL_ (some 17) rfl rfl Tryz.func62 (by kernel_rfl) rfl #[.agg #[.string ((rd_T58 l0 x3_1).f0), .slice A108_1 ((rd_T58 l0 x3_1).f1).length c108_1]] rfl aG ?_; (with_reducible refine (constablelaw03_Heavy.calls k1 ((rd_T58 l0 x3_1).f0) _ _ ((rd_T58 l0 x3_1).f1) false _ ?side1 ?side2 A5.out).mono ?_); (case side1 => exact sC (Kd.C_below HR108_1.out HB.out)); (case side2 => exact HC108_1.out); rintro e w8 ⟨rfl, hb⟩; refine ⟨_, rfl, ?_⟩; have n0_ := Aside0.mk (below_step bB0 hb); clear HB; have HB := n0_; clear n0_; (try clear hb); (try clear hb2); (try clear hk); (try clear hi)))
       go_roundg k1
       case measure => have := HK1.out; omega
       case rel => exact ⟨(wrap64 (x3_1 + 1)), (by first | rfl | (simp; done) | (simp [*]; done)), H', ⟨by have := HK1.out; omega⟩, ⟨bB0⟩⟩
     ·rw [if_neg c4] at H
      exact absurd H (by simp)
    ·rw [if_neg c3] at H
     have c3b0 : decide (x3_1 < (l0.length : Int)) = false := decide_eq_false c3
     clear c3
     obtain rfl := Option.some.inj H
     go_wp2
     go_ret
     exact ⟨eW, bB0⟩

end Go.Proofs.YtghommaokdhjmaaGreat.P
namespace Go.Proofs.YtghommaokdhjmaaGreat.P
open Go.RowKit Go.Proofs.YtghommaokdhjmaaGreatW.PrintWords Go.Proofs.YtghommaokdhjmaaGreatW.PrintLast Gate

def constablelaw25_Long.f (k : Nat) (l0 : List (S58)) : Option (Bool) := if (l0.length : Int) > 14 then (if (l0.length : Int) ≤ 200 then (some true) else (if (l0.length : Int) > 203 then (some true) else (if (l0.length : Int) ≤ 14 then ((constablelaw03_Many.f k l0).bind fun t110 => (some t110)) else (some false)))) else (if (l0.length : Int) > 203 then (some true) else (if (l0.length : Int) ≤ 14 then ((constablelaw03_Many.f k l0).bind fun t111 => (some t111)) else (some false)))
set_option maxHeartbeats 8000000 in
set_option maxRecDepth 100000 in
theorem constablelaw25_Long.calls (k : Nat) (A0 : Option Addr) (c0 : Nat) (l0 : List (S58)) (r : Bool) (w : World) (hr0 : Kd.C k58 w A0 l0.length l0) (hc0 : l0.length ≤ c0) (h : constablelaw25_Long.f k l0 = some r) :
  Calls Tryz.prog 11 #[.slice A0 l0.length c0] w fun e w' => e = .returned (.bool r) ∧ Below w.heap.size w w' := by
 have HR0 := Aside0.mk hr0
 have HC0 := Aside0.mk hc0
 clear hr0 hc0
 have HB := Aside0.mk (Below.refl w.heap.size w)
 have H : (if (l0.length : Int) > 14 then (if (l0.length : Int) ≤ 200 then (some true) else (if (l0.length : Int) > 203 then (some true) else (if (l0.length : Int) ≤ 14 then ((constablelaw03_Many.f k l0).bind fun t110 => (some t110)) else (some false)))) else (if (l0.length : Int) > 203 then (some true) else (if (l0.length : Int) ≤ 14 then ((constablelaw03_Many.f k l0).bind fun t111 => (some t111)) else (some false)))) = some r := h
 clear h
 by_cases c2 : (l0.length : Int) > 14
 ·rw [if_pos c2] at H
  have c2b0 : decide (14 < (l0.length : Int)) = true := decide_eq_true c2
  have c2b1 : decide (14 < l0.length) = true := decide_eq_true (by omega)
  clear c2
  by_cases c3 : (l0.length : Int) ≤ 200
  ·rw [if_pos c3] at H
   have c3b0 : decide ((l0.length : Int) ≤ 200) = true := decide_eq_true c3
   have c3b1 : decide (l0.length ≤ 200) = true := decide_eq_true (by omega)
   clear c3
   obtain rfl := Option.some.inj H
   go_enter Tryz.func11, Tryz.ntmps11
   go_wp2
   go_ret
   exact ⟨eW, bB0⟩
  ·rw [if_neg c3] at H
   have c3b0 : decide ((l0.length : Int) ≤ 200) = false := decide_eq_false c3
   have c3b1 : decide (l0.length ≤ 200) = false := decide_eq_false (by omega)
   clear c3
   by_cases c4 : (l0.length : Int) > 203
   ·rw [if_pos c4] at H
    have c4b0 : decide (203 < (l0.length : Int)) = true := decide_eq_true c4
    have c4b1 : decide (203 < l0.length) = true := decide_eq_true (by omega)
    clear c4
    obtain rfl := Option.some.inj H
    go_enter Tryz.func11, Tryz.ntmps11
    go_wp2
    go_ret
    exact ⟨eW, bB0⟩
   ·rw [if_neg c4] at H
    have c4b0 : decide (203 < (l0.length : Int)) = false := decide_eq_false c4
    have c4b1 : decide (203 < l0.length) = false := decide_eq_false (by omega)
    clear c4
    by_cases c5 : (l0.length : Int) ≤ 14
    ·rw [if_pos c5] at H
     have c5b0 : decide ((l0.length : Int) ≤ 14) = true := decide_eq_true c5
     have c5b1 : decide (l0.length ≤ 14) = true := decide_eq_true (by omega)
     clear c5
     replace H := Option.bind_eq_some_iff.mp H
     obtain ⟨t110, A60, H⟩ := H
     replace H : (some t110) = some r := H
     have A6 := Aside0.mk A60
     clear A60
     obtain rfl := Option.some.inj H
     go_enter Tryz.func11, Tryz.ntmps11
     go_wp2_with (first | (go_at_call 30; (with_reducible refine (constablelaw03_Many.calls k _ _ l0 t110 _ ?side1 ?side2 A6.out).mono ?_); (case side1 => exact sC HR0.out); (case side2 => exact HC0.out); rintro e w7 ⟨rfl, hb⟩; have n0_ := Aside0.mk (below_step bB0 hb); clear HB; have HB := n0_; clear n0_; (try clear hb); (try clear hb2); (try clear hk); (try clear hi)))
     go_ret
     exact ⟨eW, bB0⟩
    ·rw [if_neg c5] at H
     have c5b0 : decide ((l0.length : Int) ≤ 14) = false := decide_eq_false c5
     have c5b1 : decide (l0.length ≤ 14) = false := decide_eq_false (by omega)
     clear c5
     obtain rfl := Option.some.inj H
     go_enter Tryz.func11, Tryz.ntmps11
     go_wp2
     go_ret
     exact ⟨eW, bB0⟩
 ·rw [if_neg c2] at H
  have c2b0 : decide (14 < (l0.length : Int)) = false := decide_eq_false c2
  have c2b1 : decide (14 < l0.length) = false := decide_eq_false (by omega)
  clear c2
  by_cases c8 : (l0.length : Int) > 203
  ·rw [if_pos c8] at H
   have c8b0 : decide (203 < (l0.length : Int)) = true := decide_eq_true c8
   have c8b1 : decide (203 < l0.length) = true := decide_eq_true (by omega)
   clear c8
   obtain rfl := Option.some.inj H
   go_enter Tryz.func11, Tryz.ntmps11
   go_wp2
   go_ret
   exact ⟨eW, bB0⟩
  ·rw [if_neg c8] at H
   have c8b0 : decide (203 < (l0.length : Int)) = false := decide_eq_false c8
   have c8b1 : decide (203 < l0.length) = false := decide_eq_false (by omega)
   clear c8
   by_cases c9 : (l0.length : Int) ≤ 14
   ·rw [if_pos c9] at H
    have c9b0 : decide ((l0.length : Int) ≤ 14) = true := decide_eq_true c9
    have c9b1 : decide (l0.length ≤ 14) = true := decide_eq_true (by omega)
    clear c9
    replace H := Option.bind_eq_some_iff.mp H
    obtain ⟨t111, A100, H⟩ := H
    replace H : (some t111) = some r := H
    have A10 := Aside0.mk A100
    clear A100
    obtain rfl := Option.some.inj H
    go_enter Tryz.func11, Tryz.ntmps11
    go_wp2_with (first | (go_at_call 30; (with_reducible refine (constablelaw03_Many.calls k _ _ l0 t111 _ ?side1 ?side2 A10.out).mono ?_); (case side1 => exact sC HR0.out); (case side2 => exact HC0.out); rintro e w11 ⟨rfl, hb⟩; have n0_ := Aside0.mk (below_step bB0 hb); clear HB; have HB := n0_; clear n0_; (try clear hb); (try clear hb2); (try clear hk); (try clear hi)))
    go_ret
    exact ⟨eW, bB0⟩
   ·rw [if_neg c9] at H
    have c9b0 : decide ((l0.length : Int) ≤ 14) = false := decide_eq_false c9
    have c9b1 : decide (l0.length ≤ 14) = false := decide_eq_false (by omega)
    clear c9
    obtain rfl := Option.some.inj H
    go_enter Tryz.func11, Tryz.ntmps11
    go_wp2
    go_ret
    exact ⟨eW, bB0⟩

end Go.Proofs.YtghommaokdhjmaaGreat.P
namespace Go.Proofs.YtghommaokdhjmaaGreat.P
open Go.RowKit Go.Proofs.YtghommaokdhjmaaGreatW.PrintWords Go.Proofs.YtghommaokdhjmaaGreatW.PrintLast Gate

def constablelaw12_Heavy.l0 : Nat → List (S62) → Int → Option (Bool)
 | 0, _, _ => none
 | k + 1, x0, x3 => if x3 < (x0.length : Int) then (if 0 ≤ x3 then ((constablelaw06_Heavy.f k ((rd_T62 x0 x3).f1.f0) ((rd_T62 x0 x3).f1.f1)).bind fun t105 => (if t105 = true then (some true) else (constablelaw12_Heavy.l0 k x0 (wrap64 (x3 + 1))))) else (none)) else (some false)
def constablelaw12_Heavy.f (k : Nat) (l0 : List (S62)) : Option (Bool) := if (l0.length : Int) > 60 then (some true) else (constablelaw12_Heavy.l0 k l0 0)
set_option maxHeartbeats 8000000 in
set_option maxRecDepth 100000 in
theorem constablelaw12_Heavy.calls (k : Nat) (A0 : Option Addr) (c0 : Nat) (l0 : List (S62)) (r : Bool) (w : World) (hr0 : Kd.C k62 w A0 l0.length l0) (hc0 : l0.length ≤ c0) (h : constablelaw12_Heavy.f k l0 = some r) :
  Calls Tryz.prog 9 #[.slice A0 l0.length c0] w fun e w' => e = .returned (.bool r) ∧ Below w.heap.size w w' := by
 have hu25 := Tryz.underlying25
 have HR0 := Aside0.mk hr0
 have HC0 := Aside0.mk hc0
 clear hr0 hc0
 have HB := Aside0.mk (Below.refl w.heap.size w)
 have H : (if (l0.length : Int) > 60 then (some true) else (constablelaw12_Heavy.l0 k l0 0)) = some r := h
 clear h
 by_cases c2 : (l0.length : Int) > 60
 ·rw [if_pos c2] at H
  have c2b0 : decide (60 < (l0.length : Int)) = true := decide_eq_true c2
  have c2b1 : decide (60 < l0.length) = true := decide_eq_true (by omega)
  clear c2
  obtain rfl := Option.some.inj H
  go_enter Tryz.func9, Tryz.ntmps9
  go_wp2
  go_ret
  exact ⟨eW, bB0⟩
 ·rw [if_neg c2] at H
  have c2b0 : decide (60 < (l0.length : Int)) = false := decide_eq_false c2
  have c2b1 : decide (60 < l0.length) = false := decide_eq_false (by omega)
  clear c2
  have H' := Aside0.mk H
  clear H
  go_enter Tryz.func9, Tryz.ntmps9
  go_wp2
  go_loopg [3] k (fun kq v3 w' => ∃ (x3_1 : Int), v3 = .int .i64 x3_1 ∧ Aside0 (constablelaw12_Heavy.l0 kq l0 x3_1 = some r) ∧ Aside0 (kq ≤ k) ∧ Aside0 (Below w.heap.size w w'))
  case atStart => exact ⟨(0), (by first | rfl | (simp; done) | (simp [*]; done)), H', ⟨Nat.le_refl _⟩, ⟨bB0⟩⟩
  case round =>
   clear H'
   (try clear c2); (try clear c2b0); (try clear c2b1); (try clear p2)
   obtain ⟨x3_1, rfl, HA, HK1, HB⟩ := hrel
   cases gk with
   | zero => exact absurd HA.out (by simp [constablelaw12_Heavy.l0])
   | succ k1 =>
    have H := HA.out
    clear HA
    simp only [constablelaw12_Heavy.l0] at H
    by_cases c3 : x3_1 < (l0.length : Int)
    ·rw [if_pos c3] at H
     have c3b0 : decide (x3_1 < (l0.length : Int)) = true := decide_eq_true c3
     clear c3
     by_cases c4 : 0 ≤ x3_1
     ·rw [if_pos c4] at H
      have c4b0 : decide (0 ≤ x3_1) = true := decide_eq_true c4
      clear c4
      replace H := Option.bind_eq_some_iff.mp H
      obtain ⟨t105, A50, H⟩ := H
      replace H : (if t105 = true then (some true) else (constablelaw12_Heavy.l0 k1 l0 (wrap64 (x3_1 + 1)))) = some r := H
      have A5 := Aside0.mk A50
      clear A50
      by_cases c6 : t105 = true
      ·subst c6
       have H1 : (some true) = some r := by rw [if_pos rfl] at H; exact H
       clear H
       have H := H1
       clear H1
       obtain rfl := Option.some.inj H
       have p104 : 0 ≤ (x3_1 : Int) := of_decide_eq_true (by first | (with_reducible assumption) | assumption)
       have q104 : x3_1 < (l0.length : Int) := of_decide_eq_true (by first | (with_reducible assumption) | assumption)
       obtain ⟨ad104, A104_2, c104_2, e104, hx104_0, hx104_1, hx104_2, hx104_3, hx104_4, hl104_2, hi104_2⟩ := at_T62 HR0.out x3_1 p104 q104
       cases e104
       have HZ104_2 := Aside0.mk hx104_2
       replace hx104_0 := (HB.out.cell (World.block_lt_of_cell? w _ hx104_0)).trans hx104_0
       replace hx104_1 := (HB.out.cell (World.block_lt_of_cell? w _ hx104_1)).trans hx104_1
       replace hx104_2 := (HB.out.cell (World.block_lt_of_cell? w _ hx104_2)).trans hx104_2
       replace hx104_3 := (HB.out.cell (World.block_lt_of_cell? w _ hx104_3)).trans hx104_3
       replace hx104_4 := (HB.out.cell (World.block_lt_of_cell? w _ hx104_4)).trans hx104_4
       have HR104_2 := Aside0.mk hi104_2
       have HC104_2 := Aside0.mk hl104_2
       clear hi104_2 hl104_2
       replace p104 := eq_true p104
       replace q104 := eq_true q104
       go_wp2_with (first | ((with_reducible refine gate_callee (f := 29) rfl ?_); refine goesL_ (some 18) rfl rfl Tryz.func29 (by kernel_rfl) rfl #[.agg #[.string ((rd_T62 l0 x3_1).f1.f0), .slice A104_2 ((rd_T62 l0 x3_1).f1.f1).length c104_2]] rfl aG ?_; (with_reducible refine (constablelaw06_Heavy.calls k1 ((rd_T62 l0 x3_1).f1.f0) _ _ ((rd_T62 l0 x3_1).f1.f1) true _ ?side1 ?side2 A5.out).mono ?_); (case side1 => exact sC (Kd.C_below HR104_2.out HB.out)); (case side2 => exact HC104_2.out); rintro e w7 ⟨rfl, hb⟩; refine ⟨_, rfl, ?_⟩; have n0_ := Aside0.mk (below_step bB0 hb); clear HB; have HB := n0_; clear n0_; (try clear hb); (try clear hb2); (try clear hk); (try clear hi)))
       go_ret
       exact ⟨eW, bB0⟩
      ·replace c6 := Bool.eq_false_iff.mpr c6
       subst c6
       have H1 : (constablelaw12_Heavy.l0 k1 l0 (wrap64 (x3_1 + 1))) = some r := by rw [if_neg (show ¬ (false = true) by decide)] at H; exact H
       clear H
       have H := H1
       clear H1
       have H' := Aside0.mk H
       clear H
       have p104 : 0 ≤ (x3_1 : Int) := of_decide_eq_true (by first | (with_reducible assumption) | assumption)
       have q104 : x3_1 < (l0.length : Int) := of_decide_eq_true (by first | (with_reducible assumption) | assumption)
       obtain ⟨ad104, A104_2, c104_2, e104, hx104_0, hx104_1, hx104_2, hx104_3, hx104_4, hl104_2, hi104_2⟩ := at_T62 HR0.out x3_1 p104 q104
       cases e104
       have HZ104_2 := Aside0.mk hx104_2
       replace hx104_0 := (HB.out.cell (World.block_lt_of_cell? w _ hx104_0)).trans hx104_0
       replace hx104_1 := (HB.out.cell (World.block_lt_of_cell? w _ hx104_1)).trans hx104_1
       replace hx104_2 := (HB.out.cell (World.block_lt_of_cell? w _ hx104_2)).trans hx104_2
       replace hx104_3 := (HB.out.cell (World.block_lt_of_cell? w _ hx104_3)).trans hx104_3
       replace hx104_4 := (HB.out.cell (World.block_lt_of_cell? w _ hx104_4)).trans hx104_4
       have HR104_2 := Aside0.mk hi104_2
       have HC104_2 := Aside0.mk hl104_2
       clear hi104_2 hl104_2
       replace p104 := eq_true p104
       replace q104 := eq_true q104
       go_wp2_with (first | ((with_reducible refine gate_callee (f := 29) rfl ?_); refine goesL_ (some 18) rfl rfl Tryz.func29 (by kernel_rfl) rfl #[.agg #[.string ((rd_T62 l0 x3_1).f1.f0), .slice A104_2 ((rd_T62 l0 x3_1).f1.f1).length c104_2]] rfl aG ?_; (with_reducible refine (constablelaw06_Heavy.calls k1 ((rd_T62 l0 x3_1).f1.f0) _ _ ((rd_T62 l0 x3_1).f1.f1) false _ ?side1 ?side2 A5.out).mono ?_); (case side1 => exact sC (Kd.C_below HR104_2.out HB.out)); (case side2 => exact HC104_2.out); rintro e w8 ⟨rfl, hb⟩; refine ⟨_, rfl, ?_⟩; have n0_ := Aside0.mk (below_step bB0 hb); clear HB; have HB := n0_; clear n0_; (try clear hb); (try clear hb2); (try clear hk); (try clear hi)))
       go_roundg k1
       case measure => have := HK1.out; omega
       case rel => exact ⟨(wrap64 (x3_1 + 1)), (by first | rfl | (simp; done) | (simp [*]; done)), H', ⟨by have := HK1.out; omega⟩, ⟨bB0⟩⟩
     ·rw [if_neg c4] at H
      exact absurd H (by simp)
    ·rw [if_neg c3] at H
     have c3b0 : decide (x3_1 < (l0.length : Int)) = false := decide_eq_false c3
     clear c3
     obtain rfl := Option.some.inj H
     go_wp2
     go_ret
     exact ⟨eW, bB0⟩

end Go.Proofs.YtghommaokdhjmaaGreat.P
/- The statements' guards: what they answer, and the bounds that they give. -/
namespace Go.Proofs.YtghommaokdhjmaaGreat.Sat
open Go.RowKit Go.Lib Go.Sort Go.Proofs.SymP Go.Proofs.YtghommaokdhjmaaGreatW.PrintWords P FactC IRow Frm SpecM SpecB PSat PSpec CmpF BothB SortStr Str
def smallN (x : S62) : Prop := x.f1.f0.size ≤ 200 ∧ x.f1.f1.length ≤ 20 ∧ ∀ t ∈ x.f1.f1, t.f0.size ≤ 200 ∧ t.f1.f2.size ≤ 200
theorem heavyN_loop (l : List S62) (hl : l.length ≤ 1000000) : ∀ (m i : Nat), i + m = l.length → ∃ b, Ev (fun k => constablelaw12_Heavy.l0 k l i) b ∧ (b = false → ∀ j (hj : j < l.length), i ≤ j → smallN l[j]) := by
 intro m
 induction m with
 | zero =>
  intro i h
  refine ⟨false, Ev.step (fun k => by rw [constablelaw12_Heavy.l0, if_neg (by omega)]) (Ev.now _), fun _ j hj hi => absurd hj (by omega)⟩
 | succ m ih =>
  intro i h
  have hi : i < l.length := by omega
  obtain ⟨b1, e1, k1⟩ := ev_heavyA l[i].f1.f0 l[i].f1.f1
  obtain ⟨b2, e2, k2⟩ := ih (i + 1) (by omega)
  have hw : wrap64 ((i : Int) + 1) = ((i + 1 : Nat) : Int) := by unfold wrap64; omega
  cases b1 with
  | true => exact ⟨true, Ev.step (fun k => by rw [constablelaw12_Heavy.l0, if_pos (by omega), if_pos (by omega), rd62_get hi]) (Ev.bind e1 (by simp only [if_true]; exact Ev.now _)), fun h => by cases h⟩
  | false =>
   refine ⟨b2, Ev.step (fun k => by rw [constablelaw12_Heavy.l0, if_pos (by omega), if_pos (by omega), rd62_get hi, hw]) (Ev.bind e1 (by simp only [Bool.false_eq_true, if_false]; exact e2)), fun hb j hj hij => ?_⟩
   by_cases e : j = i
   ·subst e; exact k1 rfl
   ·exact k2 hb j hj (by omega)
theorem ev_heavyN (l : List S62) : ∃ b, Ev (fun k => constablelaw12_Heavy.f k l) b ∧ (b = false → l.length ≤ 60 ∧ ∀ x ∈ l, smallN x) := by
 unfold constablelaw12_Heavy.f
 by_cases h : 60 < l.length
 ·exact ⟨true, by simp only [if_pos (show (l.length : Int) > 60 by omega)]; exact Ev.now _, fun h => by cases h⟩
 ·obtain ⟨b, e, k⟩ := heavyN_loop l (by omega) l.length 0 (by omega)
  refine ⟨b, by simp only [if_neg (show ¬ (l.length : Int) > 60 by omega)]; exact e, fun hb => ⟨by omega, fun x hx => ?_⟩⟩
  obtain ⟨j, hj, rfl⟩ := List.getElem_of_mem hx
  exact k hb j hj (by omega)
def smallF (y : S58) : Prop := y.f0.size ≤ 200 ∧ y.f1.length ≤ 20 ∧ ∀ v ∈ y.f1, v.f2.size ≤ 200
theorem many_loop (l : List S58) (hl : l.length ≤ 1000000) : ∀ (m i : Nat), i + m = l.length → ∃ b, Ev (fun k => constablelaw03_Many.l0 k l i) b ∧ (b = false → ∀ j (hj : j < l.length), i ≤ j → smallF l[j]) := by
 intro m
 induction m with
 | zero =>
  intro i h
  refine ⟨false, Ev.step (fun k => by rw [constablelaw03_Many.l0, if_neg (by omega)]) (Ev.now _), fun _ j hj hi => absurd hj (by omega)⟩
 | succ m ih =>
  intro i h
  have hi : i < l.length := by omega
  obtain ⟨b1, e1, k1⟩ := ev_heavyF l[i].f0 l[i].f1
  obtain ⟨b2, e2, k2⟩ := ih (i + 1) (by omega)
  have hw : wrap64 ((i : Int) + 1) = ((i + 1 : Nat) : Int) := by unfold wrap64; omega
  cases b1 with
  | true => exact ⟨true, Ev.step (fun k => by rw [constablelaw03_Many.l0, if_pos (by omega), if_pos (by omega), rd58_get hi]) (Ev.bind e1 (by simp only [if_true]; exact Ev.now _)), fun h => by cases h⟩
  | false =>
   refine ⟨b2, Ev.step (fun k => by rw [constablelaw03_Many.l0, if_pos (by omega), if_pos (by omega), rd58_get hi, hw]) (Ev.bind e1 (by simp only [Bool.false_eq_true, if_false]; exact e2)), fun hb j hj hij => ?_⟩
   by_cases e : j = i
   ·subst e; exact k1 rfl
   ·exact k2 hb j hj (by omega)
theorem ev_long (l : List S58) : ∃ b, Ev (fun k => constablelaw25_Long.f k l) b ∧ (b = false → l.length ≤ 14 → ∀ y ∈ l, smallF y) := by
 unfold constablelaw25_Long.f
 by_cases h : 14 < l.length
 ·simp only [if_pos (show (l.length : Int) > 14 by omega)]
  by_cases h2 : l.length ≤ 200
  ·exact ⟨true, by simp only [if_pos (show (l.length : Int) ≤ 200 by omega)]; exact Ev.now _, fun h => by cases h⟩
  ·simp only [if_neg (show ¬ (l.length : Int) ≤ 200 by omega)]
   by_cases h3 : 203 < l.length
   ·exact ⟨true, by simp only [if_pos (show (l.length : Int) > 203 by omega)]; exact Ev.now _, fun h => by cases h⟩
   ·exact ⟨false, by simp only [if_neg (show ¬ (l.length : Int) > 203 by omega), if_neg (show ¬ (l.length : Int) ≤ 14 by omega)]; exact Ev.now _, fun _ h => by omega⟩
 ·obtain ⟨b, e, k⟩ := many_loop l (by omega) l.length 0 (by omega)
  refine ⟨b, ?_, fun hb _ y hy => ?_⟩
  ·simp only [if_neg (show ¬ (l.length : Int) > 14 by omega), if_neg (show ¬ (l.length : Int) > 203 by omega), if_pos (show (l.length : Int) ≤ 14 by omega)]
   refine Ev.bind ?_ (Ev.now _)
   unfold constablelaw03_Many.f
   simp only [if_neg (show ¬ (l.length : Int) > 60 by omega)]
   exact e
  ·obtain ⟨j, hj, rfl⟩ := List.getElem_of_mem hy
   exact k hb j hj (by omega)
theorem fit_small {l : List S62} (h : l.length ≤ 60 ∧ ∀ x ∈ l, smallN x) : fitNs l := ⟨fun x hx => by
 obtain ⟨h1, h2, h3⟩ := h.2 x hx
 refine ⟨⟨by omega, fitT_mem.2 fun t ht => ?_⟩, by omega⟩
 have := h3 t ht
 omega, by omega⟩
theorem fitF_small {y : S58} (h : smallF y) : fitF y := by
 obtain ⟨h1, h2, h3⟩ := h
 exact ⟨by omega, fitV_mem.2 fun v hv => by have := h3 v hv; omega, by omega⟩
end Go.Proofs.YtghommaokdhjmaaGreat.Sat
/- What the four laws' walks share: the contracts over rows that are read, the place, the answers. -/
namespace Go.Proofs.YtghommaokdhjmaaGreat.Sat
open Go.RowKit Go.Lib Go.Sort Go.Proofs.SymP Go.Proofs.YtghommaokdhjmaaGreatW.PrintWords P FactC IRow Frm SpecM SpecB PSat PSpec CmpF BothB SortStr Str
section
variable {W : World} {A B T D : Option Addr} {n n2 c c2 tn tc bn bc : Nat} {l m : List S62} {t : List S58} {b : List S66}
theorem cLong {v : Bool} (h : TRow W T tn tc t) (hv : Ev (fun k => constablelaw25_Long.f k t) v) : Calls Tryz.prog 11 #[.slice T tn tc] W fun e w' => e = .returned (.bool v) ∧ Go.RowKit.Below W.heap.size W w' := by
 obtain rfl := h.len
 obtain ⟨k, hk⟩ := hv.rounds
 exact constablelaw25_Long.calls k T tc t _ W h.C h.cap hk
theorem cHolds {p : Nat} {x : Bool} {e0 : Int} (hl : NRow W A n c l) (ht : TRow W T tn tc t) (hb : BRow W B bn bc b) (hf : fitNs l) (hfb : fitB b = true) (hft : ∀ y ∈ t, fitF y) (htn : tn ≤ 1000000) (hbn : bn ≤ 1000000) (hx : holdsV l t (p : Int) b = x) (he : holdsE l t (p : Int) b = e0) :
  Calls Tryz.prog 14 #[.slice A n c, .slice T tn tc, .int .i64 (p : Int), .slice B bn bc] W fun e w' => e = .returned (.tuple #[.bool x, .int .i64 e0]) ∧ Go.RowKit.Below W.heap.size W w' := by
 subst hx he
 exact Holds_calls hl ht hb hf hfb hft htn hbn
end
theorem holdsV_ok {l : List S62} {t : List S58} {b : List S66} {p : Nat} (h : holdsE l t (p : Int) b = 0) : holdsV l t (p : Int) b = semP (evP t b) l p := by unfold holdsV; rw [if_pos h]; rfl
theorem place (i : Int) (tn : Nat) (h : 0 < tn) (h2 : tn ≤ 14) : ∃ p : Nat, wrap64 ((IntKind.u64.wrap i).tmod ↑tn) = ↑p ∧ p < tn := by
 have h0 : 0 ≤ IntKind.u64.wrap i := by unfold IntKind.wrap; simp [IntKind.bits, IntKind.signed]; omega
 have h3 := Int.tmod_nonneg (tn : Int) h0
 have h4 := Int.tmod_lt_of_pos (IntKind.u64.wrap i) (show (0 : Int) < tn by omega)
 generalize (IntKind.u64.wrap i).tmod ↑tn = r at *
 clear h0
 refine ⟨r.toNat, ?_, by omega⟩
 unfold wrap64
 omega
end Go.Proofs.YtghommaokdhjmaaGreat.Sat
namespace Go.Proofs.YtghommaokdhjmaaGreat.P
open Go.RowKit Go.Proofs.YtghommaokdhjmaaGreatW.PrintWords Go.Proofs.YtghommaokdhjmaaGreatW.PrintLast Gate

def constablelaw12_HeavyPattern.f (k : Nat) (a0_0 : ByteArray) (a0_1 : ByteArray) (l0_2 : List (S92)) (l0_3 : List (S62)) : Option (Bool) := if (a0_0.size : Int) > 200 then (some true) else ((constablelaw06_Heavy.f k a0_1 l0_2).bind fun t696 => (if t696 = true then (some true) else ((constablelaw12_Heavy.f k l0_3).bind fun t697 => (some t697))))
set_option maxHeartbeats 8000000 in
set_option maxRecDepth 100000 in
theorem constablelaw12_HeavyPattern.calls (k : Nat) (a0_0 : ByteArray) (a0_1 : ByteArray) (A0_2 : Option Addr) (c0_2 : Nat) (l0_2 : List (S92)) (A0_3 : Option Addr) (c0_3 : Nat) (l0_3 : List (S62)) (r : Bool) (w : World) (hr0_2 : Kd.C k92 w A0_2 l0_2.length l0_2) (hc0_2 : l0_2.length ≤ c0_2) (hr0_3 : Kd.C k62 w A0_3 l0_3.length l0_3) (hc0_3 : l0_3.length ≤ c0_3) (h : constablelaw12_HeavyPattern.f k a0_0 a0_1 l0_2 l0_3 = some r) :
  Calls Tryz.prog 10 #[.agg #[.string a0_0, .string a0_1, .slice A0_2 l0_2.length c0_2, .slice A0_3 l0_3.length c0_3]] w fun e w' => e = .returned (.bool r) ∧ Below w.heap.size w w' := by
 have hu27 := Tryz.underlying27
 have hu25 := Tryz.underlying25
 have HR0_2 := Aside0.mk hr0_2
 have HC0_2 := Aside0.mk hc0_2
 clear hr0_2 hc0_2
 have HR0_3 := Aside0.mk hr0_3
 have HC0_3 := Aside0.mk hc0_3
 clear hr0_3 hc0_3
 have HB := Aside0.mk (Below.refl w.heap.size w)
 have H : (if (a0_0.size : Int) > 200 then (some true) else ((constablelaw06_Heavy.f k a0_1 l0_2).bind fun t696 => (if t696 = true then (some true) else ((constablelaw12_Heavy.f k l0_3).bind fun t697 => (some t697))))) = some r := h
 clear h
 by_cases c2 : (a0_0.size : Int) > 200
 ·rw [if_pos c2] at H
  have c2b0 : decide (200 < (a0_0.size : Int)) = true := decide_eq_true c2
  have c2b1 : decide (200 < a0_0.size) = true := decide_eq_true (by omega)
  clear c2
  obtain rfl := Option.some.inj H
  go_enter Tryz.func10, Tryz.ntmps10
  go_wp2_with (first | ((with_reducible refine gate_dst (N := 1) rfl ?_); refine bE (N := 1) (cs := #[.string a0_0, .string a0_1, .slice A0_2 l0_2.length c0_2, .slice A0_3 l0_3.length c0_3]) (t := 27) ?_; intro gb695 hg w3 hbox hb; have n0_ := Aside0.mk (below_step bB0 hb); have n1_ := Aside0.mk (hbox); have n2_ := Aside0.mk ((by rw [hg]; exact (below_size bB0) : w.heap.size ≤ gb695)); have n3_ := Aside0.mk ((by rw [hg]; exact (below_size bB0) : w.heap.size ≤ gb695)); clear HB; have HB := n0_; have BK695 := n1_; have GW695 := n2_; have GE695 := n3_; clear n0_ n1_ n2_ n3_; clear hb hbox hg; have hcz4_0 : w3.cell? ⟨gb695, 0, none⟩ = some (.string a0_0) := (blk_cell BK695.out 0).trans rfl; have hcz4_1 : w3.cell? ⟨gb695, 1, none⟩ = some (.string a0_1) := (blk_cell BK695.out 1).trans rfl; have hcz4_2 : w3.cell? ⟨gb695, 2, none⟩ = some (.slice A0_2 l0_2.length c0_2) := (blk_cell BK695.out 2).trans rfl; have hcz4_3 : w3.cell? ⟨gb695, 3, none⟩ = some (.slice A0_3 l0_3.length c0_3) := (blk_cell BK695.out 3).trans rfl; have hfz4_0 := blk_frozen BK695.out 0; have hfz4_1 := blk_frozen BK695.out 1; have hfz4_2 := blk_frozen BK695.out 2; have hfz4_3 := blk_frozen BK695.out 3))
  go_ret
  exact ⟨eW, (bB1 GE695.out)⟩
 ·rw [if_neg c2] at H
  have c2b0 : decide (200 < (a0_0.size : Int)) = false := decide_eq_false c2
  have c2b1 : decide (200 < a0_0.size) = false := decide_eq_false (by omega)
  clear c2
  replace H := Option.bind_eq_some_iff.mp H
  obtain ⟨t696, A50, H⟩ := H
  replace H : (if t696 = true then (some true) else ((constablelaw12_Heavy.f k l0_3).bind fun t697 => (some t697))) = some r := H
  have A5 := Aside0.mk A50
  clear A50
  by_cases c6 : t696 = true
  ·subst c6
   have H1 : (some true) = some r := by rw [if_pos rfl] at H; exact H
   clear H
   have H := H1
   clear H1
   obtain rfl := Option.some.inj H
   go_enter Tryz.func10, Tryz.ntmps10
   go_wp2_with (first | ((with_reducible refine gate_dst (N := 1) rfl ?_); refine bE (N := 1) (cs := #[.string a0_0, .string a0_1, .slice A0_2 l0_2.length c0_2, .slice A0_3 l0_3.length c0_3]) (t := 27) ?_; intro gb695 hg w7 hbox hb; have n0_ := Aside0.mk (below_step bB0 hb); have n1_ := Aside0.mk (hbox); have n2_ := Aside0.mk ((by rw [hg]; exact (below_size bB0) : w.heap.size ≤ gb695)); have n3_ := Aside0.mk ((by rw [hg]; exact (below_size bB0) : w.heap.size ≤ gb695)); clear HB; have HB := n0_; have BK695 := n1_; have GW695 := n2_; have GE695 := n3_; clear n0_ n1_ n2_ n3_; clear hb hbox hg; have hcz8_0 : w7.cell? ⟨gb695, 0, none⟩ = some (.string a0_0) := (blk_cell BK695.out 0).trans rfl; have hcz8_1 : w7.cell? ⟨gb695, 1, none⟩ = some (.string a0_1) := (blk_cell BK695.out 1).trans rfl; have hcz8_2 : w7.cell? ⟨gb695, 2, none⟩ = some (.slice A0_2 l0_2.length c0_2) := (blk_cell BK695.out 2).trans rfl; have hcz8_3 : w7.cell? ⟨gb695, 3, none⟩ = some (.slice A0_3 l0_3.length c0_3) := (blk_cell BK695.out 3).trans rfl; have hfz8_0 := blk_frozen BK695.out 0; have hfz8_1 := blk_frozen BK695.out 1; have hfz8_2 := blk_frozen BK695.out 2; have hfz8_3 := blk_frozen BK695.out 3) | (go_at_call 29; (with_reducible refine (constablelaw06_Heavy.calls k a0_1 _ _ l0_2 true _ ?side1 ?side2 A5.out).mono ?_); (case side1 => exact sC (Kd.C_below HR0_2.out HB.out)); (case side2 => exact HC0_2.out); rintro e w9 ⟨rfl, hb⟩; have n0_ := Aside0.mk (blk_below (g := gb695) (o := .cells #[.string a0_0, .string a0_1, .slice A0_2 l0_2.length c0_2, .slice A0_3 l0_3.length c0_3] 27 (0, 0)) (by refine bk ?_; exact BK695.out) hb); have n1_ := Aside0.mk (below_step (bB1 GE695.out) hb); clear BK695; clear HB; have BK695 := n0_; have HB := n1_; clear n0_ n1_; (try clear hb); (try clear hb2); (try clear hk); (try clear hi)))
   go_ret
   exact ⟨eW, (bB1 GE695.out)⟩
  ·replace c6 := Bool.eq_false_iff.mpr c6
   subst c6
   have H1 : ((constablelaw12_Heavy.f k l0_3).bind fun t697 => (some t697)) = some r := by rw [if_neg (show ¬ (false = true) by decide)] at H; exact H
   clear H
   have H := H1
   clear H1
   replace H := Option.bind_eq_some_iff.mp H
   obtain ⟨t697, A100, H⟩ := H
   replace H : (some t697) = some r := H
   have A10 := Aside0.mk A100
   clear A100
   obtain rfl := Option.some.inj H
   go_enter Tryz.func10, Tryz.ntmps10
   go_wp2_with (first | ((with_reducible refine gate_dst (N := 1) rfl ?_); refine bE (N := 1) (cs := #[.string a0_0, .string a0_1, .slice A0_2 l0_2.length c0_2, .slice A0_3 l0_3.length c0_3]) (t := 27) ?_; intro gb695 hg w11 hbox hb; have n0_ := Aside0.mk (below_step bB0 hb); have n1_ := Aside0.mk (hbox); have n2_ := Aside0.mk ((by rw [hg]; exact (below_size bB0) : w.heap.size ≤ gb695)); have n3_ := Aside0.mk ((by rw [hg]; exact (below_size bB0) : w.heap.size ≤ gb695)); clear HB; have HB := n0_; have BK695 := n1_; have GW695 := n2_; have GE695 := n3_; clear n0_ n1_ n2_ n3_; clear hb hbox hg; have hcz12_0 : w11.cell? ⟨gb695, 0, none⟩ = some (.string a0_0) := (blk_cell BK695.out 0).trans rfl; have hcz12_1 : w11.cell? ⟨gb695, 1, none⟩ = some (.string a0_1) := (blk_cell BK695.out 1).trans rfl; have hcz12_2 : w11.cell? ⟨gb695, 2, none⟩ = some (.slice A0_2 l0_2.length c0_2) := (blk_cell BK695.out 2).trans rfl; have hcz12_3 : w11.cell? ⟨gb695, 3, none⟩ = some (.slice A0_3 l0_3.length c0_3) := (blk_cell BK695.out 3).trans rfl; have hfz12_0 := blk_frozen BK695.out 0; have hfz12_1 := blk_frozen BK695.out 1; have hfz12_2 := blk_frozen BK695.out 2; have hfz12_3 := blk_frozen BK695.out 3) | (go_at_call 29; (with_reducible refine (constablelaw06_Heavy.calls k a0_1 _ _ l0_2 false _ ?side1 ?side2 A5.out).mono ?_); (case side1 => exact sC (Kd.C_below HR0_2.out HB.out)); (case side2 => exact HC0_2.out); rintro e w13 ⟨rfl, hb⟩; have n0_ := Aside0.mk (blk_below (g := gb695) (o := .cells #[.string a0_0, .string a0_1, .slice A0_2 l0_2.length c0_2, .slice A0_3 l0_3.length c0_3] 27 (0, 0)) (by refine bk ?_; exact BK695.out) hb); have n1_ := Aside0.mk (below_step (bB1 GE695.out) hb); clear BK695; clear HB; have BK695 := n0_; have HB := n1_; clear n0_ n1_; (try clear hb); (try clear hb2); (try clear hk); (try clear hi); have hcz14_0 : w13.cell? ⟨gb695, 0, none⟩ = some (.string a0_0) := (blk_cell BK695.out 0).trans rfl; have hcz14_1 : w13.cell? ⟨gb695, 1, none⟩ = some (.string a0_1) := (blk_cell BK695.out 1).trans rfl; have hcz14_2 : w13.cell? ⟨gb695, 2, none⟩ = some (.slice A0_2 l0_2.length c0_2) := (blk_cell BK695.out 2).trans rfl; have hcz14_3 : w13.cell? ⟨gb695, 3, none⟩ = some (.slice A0_3 l0_3.length c0_3) := (blk_cell BK695.out 3).trans rfl; have hfz14_0 := blk_frozen BK695.out 0; have hfz14_1 := blk_frozen BK695.out 1; have hfz14_2 := blk_frozen BK695.out 2; have hfz14_3 := blk_frozen BK695.out 3) | (go_at_call 9; (with_reducible refine (constablelaw12_Heavy.calls k _ _ l0_3 t697 _ ?side1 ?side2 A10.out).mono ?_); (case side1 => exact sC (Kd.C_below HR0_3.out HB.out)); (case side2 => exact HC0_3.out); rintro e w15 ⟨rfl, hb⟩; have n0_ := Aside0.mk (blk_below (g := gb695) (o := .cells #[.string a0_0, .string a0_1, .slice A0_2 l0_2.length c0_2, .slice A0_3 l0_3.length c0_3] 27 (0, 0)) (by refine bk ?_; exact BK695.out) hb); have n1_ := Aside0.mk (below_step (bB1 GE695.out) hb); clear BK695; clear HB; have BK695 := n0_; have HB := n1_; clear n0_ n1_; (try clear hb); (try clear hb2); (try clear hk); (try clear hi)))
   go_ret
   exact ⟨eW, (bB1 GE695.out)⟩

end Go.Proofs.YtghommaokdhjmaaGreat.P
/- A pattern's violation, plainly: what stands behind a place tells nothing of it; where a trigger matches, the formula has an answer with its values. -/
namespace Go.Proofs.YtghommaokdhjmaaGreat.Sat
open Go.RowKit Go.Lib Go.Sort Go.Proofs.SymP Go.Proofs.YtghommaokdhjmaaGreatW.PrintWords P FactC IRow Frm SpecM SpecB PSat PSpec CmpF BothB SortStr Str
theorem vars_mem : ∀ (ts : List S92) (acc : List ByteArray) (x : ByteArray), x ∈ varsL acc ts ↔ x ∈ acc ∨ ∃ t ∈ ts, ¬ con t ∧ x = t.f0
 | [], acc, x => by rw [varsL]; simp
 | t :: ts, acc, x => by
  rw [varsL]
  by_cases hc : con t
  ·rw [if_pos hc, vars_mem ts acc x]
   constructor
   ·rintro (h | ⟨u, hu, h⟩)
    ·exact .inl h
    ·exact .inr ⟨u, List.mem_cons_of_mem _ hu, h⟩
   ·rintro (h | ⟨u, hu, h⟩)
    ·exact .inl h
    ·rcases List.mem_cons.1 hu with rfl | hu
     ·exact absurd hc h.1
     ·exact .inr ⟨u, hu, h⟩
  ·rw [if_neg hc]
   by_cases ha : (acc.any fun x => decide (t.f0 = x)) = true
   ·rw [if_pos ha, vars_mem ts acc x]
    obtain ⟨y, hy, he⟩ := List.any_eq_true.1 ha
    have he := of_decide_eq_true he
    constructor
    ·rintro (h | ⟨u, hu, h⟩)
     ·exact .inl h
     ·exact .inr ⟨u, List.mem_cons_of_mem _ hu, h⟩
    ·rintro (h | ⟨u, hu, h⟩)
     ·exact .inl h
     ·rcases List.mem_cons.1 hu with rfl | hu
      ·exact .inl (by rw [h.2, he]; exact hy)
      ·exact .inr ⟨u, hu, h⟩
   ·rw [if_neg ha, vars_mem ts _ x, List.mem_append, List.mem_singleton, or_assoc]
    constructor
    ·rintro (h | h | ⟨u, hu, h⟩)
     ·exact .inl h
     ·exact .inr ⟨t, List.mem_cons_self, hc, h⟩
     ·exact .inr ⟨u, List.mem_cons_of_mem _ hu, h⟩
    ·rintro (h | ⟨u, hu, h⟩)
     ·exact .inl h
     ·rcases List.mem_cons.1 hu with rfl | hu
      ·exact .inr (.inl h.2)
      ·exact .inr (.inr ⟨u, hu, h⟩)
theorem vars_at {ts : List S92} {vs : List S64} (hn : ts.length = vs.length) {t : S92} (ht : t ∈ ts) : ∃ v, (t, v) ∈ ts.zip vs := by
 obtain ⟨i, hi, rfl⟩ := List.mem_iff_getElem.1 ht
 exact ⟨vs[i], List.mem_iff_getElem.2 ⟨i, by simp; omega, by simp⟩⟩
theorem fit_names {ts : List S92} {vs : List S64} {m : List S66} (hn : ts.length = vs.length) (h : Fit [] ts vs m) (x : ByteArray) : x ∈ m.map (fun y => y.f0) ↔ x ∈ varsL [] ts := by
 rw [vars_mem, List.mem_map]
 constructor
 ·rintro ⟨y, hy, rfl⟩
  rcases (h.2.2.2 y).1 hy with hy | ⟨p, hp, hc, rfl⟩
  ·simp at hy
  ·exact .inr ⟨p.1, (List.of_mem_zip hp).1, hc, rfl⟩
 ·rintro (hx | ⟨t, ht, hc, rfl⟩)
  ·simp at hx
  ·obtain ⟨v, hv⟩ := vars_at hn ht
   exact ⟨bnd t v, (h.2.2.2 _).2 (.inr ⟨(t, v), hv, hc, rfl⟩), rfl⟩
def Agr (p : Nat) (a b : Nat → Bool) : Prop := ∀ q, q ≤ p → a q = b q
theorem opR_agr {p : Nat} {a a' b b' : Nat → Bool} (ha : Agr p a a') (hb : Agr p b b') (k : Int) : Agr p (opR k a b) (opR k a' b') := by
 intro q hq
 unfold opR
 split
 ·simp [ha q hq]
 ·split
  ·simp [ha q hq, hb q hq]
  ·split
   ·simp [ha q hq, hb q hq]
   ·split
    ·cases q with
     | zero => rfl
     | succ q => exact ha q (by omega)
    ·split
     ·induction q with
      | zero => exact ha 0 hq
      | succ q ih => simp only [onceR, ih (by omega), ha (q + 1) hq]
     ·split
      ·induction q with
       | zero => exact ha 0 hq
       | succ q ih => simp only [alwaysR, ih (by omega), ha (q + 1) hq]
      ·induction q with
       | zero => exact hb 0 hq
       | succ q ih => simp only [sinceR, ih (by omega), ha (q + 1) hq, hb (q + 1) hq]
theorem getR_snoc (rows : List (Nat → Bool)) (f : Nat → Bool) (z : Int) : getR (rows ++ [f]) z = if z.toNat < rows.length then getR rows z else if z.toNat = rows.length then f else fun _ => false := by
 unfold getR
 rw [List.getD_eq_getElem?_getD, List.getD_eq_getElem?_getD]
 split
 ·rename_i h; rw [List.getElem?_append_left h]
 ·rename_i h
  rw [List.getElem?_append_right (by omega)]
  split
  ·rename_i h2; rw [h2, Nat.sub_self]; rfl
  ·rename_i h2; rw [List.getElem?_eq_none (by simp; omega)]; rfl
theorem rowsF_agr {ev ev' : S25 → Nat → Bool} {p : Nat} (h : ∀ a, Agr p (ev a) (ev' a)) : ∀ (l : List S62) (rows rows' : List (Nat → Bool)), rows.length = rows'.length → (∀ z, Agr p (getR rows z) (getR rows' z)) → ∀ z, Agr p (getR (rowsF ev rows l) z) (getR (rowsF ev' rows' l) z) := by
 intro l
 induction l with
 | nil => intro rows rows' _ hr; exact hr
 | cons x l ih =>
  intro rows rows' hl hr
  rw [rowsF_cons, rowsF_cons]
  refine ih _ _ (by simp [hl]) (fun z => ?_)
  rw [getR_snoc, getR_snoc, hl]
  split
  ·exact hr z
  ·split
   ·unfold rowOf
    split
    ·exact h _
    ·exact opR_agr (hr _) (hr _) _
   ·exact fun _ _ => rfl
theorem sem_agr {ev ev' : S25 → Nat → Bool} {p : Nat} (h : ∀ a, Agr p (ev a) (ev' a)) (l : List S62) : semP ev l p = semP ev' l p :=
 rowsF_agr h l [] [] rfl (fun _ _ _ => rfl) _ p (Nat.le_refl _)
theorem rd_more {t m : List S58} {q : Nat} (h : q < t.length) : rd_T58 (t ++ m) (q : Int) = rd_T58 t (q : Int) := by
 rw [rd58_get (by simp; omega), rd58_get h, List.getElem_append_left h]
theorem sem_more {t m : List S58} {b : List S66} {l : List S62} {p : Nat} (h : p < t.length) : semP (evP (t ++ m) b) l p = semP (evP t b) l p :=
 sem_agr (fun a q hq => by unfold evP; rw [rd_more (by omega)]) l
theorem wrong_holds {l : List S62} {t : List S58} {pn an a : ByteArray} {ts : List S92} {vs : List S64} {bs : List S66} {p : Nat} (hr : rightB l pn an ts = true) (hs : subB l ts = true) (ht : trP t = 0) (hp : p < t.length) (hone : oneP an ts a vs [] = (bs, true)) : holdsE l t (p : Int) bs = 0 := by
 have hk : chkN l = 0 := by
  unfold rightB at hr
  simp at hr
  exact hr.2.2
 rcases oneP_cases an ts a vs [] with ⟨m, e, _, _, _, hl, hf⟩ | ⟨e, _⟩
 ·rw [hone] at e
  obtain rfl : bs = m := congrArg Prod.fst e
  have hu : unbP l bs = false := by
   unfold unbP
   rw [List.any_eq_false]
   intro s hs2
   unfold subB at hs
   have := List.all_eq_true.1 hs s hs2
   rw [List.any_eq_true] at this
   obtain ⟨y, hy, he⟩ := this
   obtain rfl : s = y := of_decide_eq_true he
   obtain ⟨x, hx, rfl⟩ := List.mem_map.1 ((fit_names hl hf s).2 hy)
   rw [getP_of hf.2.1 hx]
   simp
  unfold holdsE
  rw [if_neg (by simp [hk]), if_neg (by simp [ht]), if_neg (by simp [hf.2.1]), if_neg (by omega), if_neg (by simp [hu])]
 ·rw [hone] at e
  simp at e
theorem one_fitB {an a : ByteArray} {ts : List S92} {vs : List S64} {bs : List S66} {m : Bool} (ft : fitT ts = true) (fv : fitV vs = true) (h : oneP an ts a vs [] = (bs, m)) : fitB bs = true := by
 rcases oneP_cases an ts a vs [] with ⟨b, e, _, _, _, hl, hf⟩ | ⟨e, _⟩
 ·rw [h] at e
  obtain rfl : bs = b := congrArg Prod.fst e
  exact fit_fit hf rfl ft fv
 ·rw [h] at e
  obtain rfl : bs = [] := congrArg Prod.fst e
  rfl
theorem one_len {an a : ByteArray} {ts : List S92} {vs : List S64} {bs : List S66} {m : Bool} (h : oneP an ts a vs [] = (bs, m)) : bs.length ≤ 100 := by
 rcases oneP_cases an ts a vs [] with ⟨b, e, _, _, _, _, hf⟩ | ⟨e, _⟩
 ·rw [h] at e
  obtain rfl : bs = b := congrArg Prod.fst e
  exact ((right_iff bs).1 hf.2.1).1
 ·rw [h] at e
  obtain rfl : bs = [] := congrArg Prod.fst e
  exact Nat.zero_le _
theorem ev_heavyP (pn an : ByteArray) (ts : List S92) (l : List S62) : ∃ b, Ev (fun k => constablelaw12_HeavyPattern.f k pn an ts l) b ∧ (b = false → pn.size ≤ 200 ∧ (an.size ≤ 200 ∧ ts.length ≤ 20 ∧ ∀ t ∈ ts, t.f0.size ≤ 200 ∧ t.f1.f2.size ≤ 200) ∧ l.length ≤ 60 ∧ ∀ x ∈ l, smallN x) := by
 unfold constablelaw12_HeavyPattern.f
 by_cases h1 : (pn.size : Int) > 200
 ·exact ⟨true, by simp only [if_pos h1]; exact Ev.now _, fun h => absurd h (by decide)⟩
 ·simp only [if_neg h1]
  obtain ⟨b1, e1, k1⟩ := ev_heavyA an ts
  obtain ⟨b2, e2, k2⟩ := ev_heavyN l
  cases b1 with
  | true => exact ⟨true, Ev.bind e1 (by simp only [if_true]; exact Ev.now _), fun h => absurd h (by decide)⟩
  | false => exact ⟨b2, Ev.bind e1 (by simp only [Bool.false_eq_true, if_false]; exact Ev.bind e2 (Ev.now _)), fun h => ⟨by omega, k1 rfl, k2 h⟩⟩
end Go.Proofs.YtghommaokdhjmaaGreat.Sat
namespace Go.Proofs.YtghommaokdhjmaaGreat.P
open Go.RowKit Go.Proofs.YtghommaokdhjmaaGreatW.PrintWords Go.Proofs.YtghommaokdhjmaaGreatW.PrintLast Gate

def constablekeep_TwinFact.f (a0_0 : ByteArray) (l0_1 : List (S64)) : Option (ByteArray × (List (S64))) := if ([] : List (S64)).length + l0_1.length < 4398046511104 then (some (a0_0, (([] : List (S64)) ++ l0_1))) else (none)
set_option maxHeartbeats 8000000 in
set_option maxRecDepth 100000 in
theorem constablekeep_TwinFact.calls (a0_0 : ByteArray) (A0_1 : Option Addr) (c0_1 : Nat) (l0_1 : List (S64)) (r1 : ByteArray) (r2 : List (S64)) (w : World) (hr0_1 : Kd.C k64 w A0_1 l0_1.length l0_1) (hc0_1 : l0_1.length ≤ c0_1) (h : constablekeep_TwinFact.f a0_0 l0_1 = some (r1, r2)) :
  Calls Tryz.prog 31 #[.agg #[.string a0_0, .slice A0_1 l0_1.length c0_1]] w fun e w' => ∃ v1_ : Value, e = .returned (.agg #[.string r1, v1_]) ∧ Kd.R k64 64 w' w.heap.size (fun _ => True) v1_ r2 ∧ Below w.heap.size w w' := by
 have hu58 := Tryz.underlying58
 have HR0_1 := Aside0.mk hr0_1
 have HC0_1 := Aside0.mk hc0_1
 clear hr0_1 hc0_1
 have HB := Aside0.mk (Below.refl w.heap.size w)
 have H : (if ([] : List (S64)).length + l0_1.length < 4398046511104 then (some (a0_0, (([] : List (S64)) ++ l0_1))) else (none)) = some (r1, r2) := h
 clear h
 by_cases c2 : ([] : List (S64)).length + l0_1.length < 4398046511104
 ·rw [if_pos c2] at H
  have LMc2 := Aside0.mk c2
  clear c2
  obtain ⟨y701, hy701⟩ : ∃ y_ : List (S64), y_ = (([] : List (S64)) ++ l0_1) := ⟨_, rfl⟩
  replace H : (some (a0_0, y701)) = some (r1, r2) := by first | (rw [hy701]; with_reducible exact H) | (have H2_ := (Option.bind_some _ _).symm.trans H; rw [hy701]; with_reducible exact H2_) | (have H2_ := (Option.bind_some _ _).symm.trans H; with_reducible exact H2_) | with_reducible exact H | (rw [hy701]; exact H) | exact H
  have Ny701 := Aside0.mk hy701
  clear hy701
  simp only [Option.some.injEq, Prod.mk.injEq] at H
  obtain ⟨rfl, rfl⟩ := H
  go_enter Tryz.func31, Tryz.ntmps31
  go_wp2_with (first | ((with_reducible refine gate_dst (N := 1) rfl ?_); refine bE (N := 1) (cs := #[.string a0_0, .slice A0_1 l0_1.length c0_1]) (t := 58) ?_; intro gb698 hg w3 hbox hb; have n0_ := Aside0.mk (below_step bB0 hb); have n1_ := Aside0.mk (hbox); have n2_ := Aside0.mk ((by rw [hg]; exact (below_size bB0) : w.heap.size ≤ gb698)); have n3_ := Aside0.mk ((by rw [hg]; exact (below_size bB0) : w.heap.size ≤ gb698)); clear HB; have HB := n0_; have BK698 := n1_; have GW698 := n2_; have GE698 := n3_; clear n0_ n1_ n2_ n3_; clear hb hbox hg) | ((with_reducible refine gate_dst (N := 2) rfl ?_); refine bE (N := 2) (cs := #[.string (⟨#[]⟩ : ByteArray), .slice none 0 0]) (t := 58) ?_; intro gb699 hg w4 hbox hb; have n0_ := Aside0.mk (blk_below (g := gb698) (o := .cells #[.string a0_0, .slice A0_1 l0_1.length c0_1] 58 (0, 0)) (by refine bk ?_; exact BK698.out) hb); have n1_ := Aside0.mk (below_step (bB1 GE698.out) hb); have n2_ := Aside0.mk (hbox); have n3_ := Aside0.mk ((by rw [hg]; exact (below_size (bB1 GE698.out)) : w.heap.size ≤ gb699)); have n4_ := Aside0.mk ((by rw [hg]; exact (below_size (bB1 GE698.out)) : w.heap.size ≤ gb699)); have n5_ := Aside0.mk ((by rw [hg]; exact Nat.ne_of_lt (blk_lt (g := gb698) (o := .cells #[.string a0_0, .slice A0_1 l0_1.length c0_1] 58 (0, 0)) (by refine bk ?_; exact BK698.out)) : gb698 ≠ gb699)); have n6_ := Aside0.mk ((by rw [hg]; exact Nat.ne_of_gt (blk_lt (g := gb698) (o := .cells #[.string a0_0, .slice A0_1 l0_1.length c0_1] 58 (0, 0)) (by refine bk ?_; exact BK698.out)) : gb699 ≠ gb698)); clear BK698; clear HB; have BK698 := n0_; have HB := n1_; have BK699 := n2_; have GW699 := n3_; have GE699 := n4_; have NB698_699 := n5_; have NB699_698 := n6_; clear n0_ n1_ n2_ n3_ n4_ n5_ n6_; clear hb hbox hg; have hnb5 := NB698_699.out; have hnc5 := NB699_698.out; have hcz6_0 : w4.cell? ⟨gb698, 0, none⟩ = some (.string a0_0) := (blk_cell BK698.out 0).trans rfl; have hcz6_1 : w4.cell? ⟨gb698, 1, none⟩ = some (.slice A0_1 l0_1.length c0_1) := (blk_cell BK698.out 1).trans rfl; have hfz6_0 := blk_frozen BK698.out 0; have hfz6_1 := blk_frozen BK698.out 1) | ((with_reducible refine gate_dst (N := 3) rfl ?_); refine bE (N := 3) (cs := #[.string (⟨#[]⟩ : ByteArray), .slice none 0 0]) (t := 58) ?_; intro gb700 hg w7 hbox hb; have n0_ := Aside0.mk (blk_below (g := gb698) (o := .cells #[.string a0_0, .slice A0_1 l0_1.length c0_1] 58 (0, 0)) (by refine bk ?_; exact BK698.out) hb); have n1_ := Aside0.mk (blk_below (g := gb699) (o := .cells #[.string (⟨#[]⟩ : ByteArray), .slice none 0 0] 58 (0, 0)) (by refine bk ?_; exact BK699.out) hb); have n2_ := Aside0.mk (below_step (bB2 GE698.out GE699.out) hb); have n3_ := Aside0.mk (hbox); have n4_ := Aside0.mk ((by rw [hg]; exact (below_size (bB2 GE698.out GE699.out)) : w.heap.size ≤ gb700)); have n5_ := Aside0.mk ((by rw [hg]; exact (below_size (bB2 GE698.out GE699.out)) : w.heap.size ≤ gb700)); have n6_ := Aside0.mk ((by rw [hg]; exact Nat.ne_of_lt (blk_lt (g := gb698) (o := .cells #[.string a0_0, .slice A0_1 l0_1.length c0_1] 58 (0, 0)) (by refine bk ?_; exact BK698.out)) : gb698 ≠ gb700)); have n7_ := Aside0.mk ((by rw [hg]; exact Nat.ne_of_gt (blk_lt (g := gb698) (o := .cells #[.string a0_0, .slice A0_1 l0_1.length c0_1] 58 (0, 0)) (by refine bk ?_; exact BK698.out)) : gb700 ≠ gb698)); have n8_ := Aside0.mk ((by rw [hg]; exact Nat.ne_of_lt (blk_lt (g := gb699) (o := .cells #[.string (⟨#[]⟩ : ByteArray), .slice none 0 0] 58 (0, 0)) (by refine bk ?_; exact BK699.out)) : gb699 ≠ gb700)); have n9_ := Aside0.mk ((by rw [hg]; exact Nat.ne_of_gt (blk_lt (g := gb699) (o := .cells #[.string (⟨#[]⟩ : ByteArray), .slice none 0 0] 58 (0, 0)) (by refine bk ?_; exact BK699.out)) : gb700 ≠ gb699)); clear BK698; clear BK699; clear HB; have BK698 := n0_; have BK699 := n1_; have HB := n2_; have BK700 := n3_; have GW700 := n4_; have GE700 := n5_; have NB698_700 := n6_; have NB700_698 := n7_; have NB699_700 := n8_; have NB700_699 := n9_; clear n0_ n1_ n2_ n3_ n4_ n5_ n6_ n7_ n8_ n9_; clear hb hbox hg; have hnb8 := NB700_698.out; have hnc8 := NB698_700.out; have hnb9 := NB700_699.out; have hnc9 := NB699_700.out; have hcz10_0 : w7.cell? ⟨gb700, 0, none⟩ = some (.string (⟨#[]⟩ : ByteArray)) := (blk_cell BK700.out 0).trans rfl; have hcz10_1 : w7.cell? ⟨gb700, 1, none⟩ = some (.slice none 0 0) := (blk_cell BK700.out 1).trans rfl; have hfz10_0 := blk_frozen BK700.out 0; have hfz10_1 := blk_frozen BK700.out 1; have hcz11_0 : w7.cell? ⟨gb698, 0, none⟩ = some (.string a0_0) := (blk_cell BK698.out 0).trans rfl; have hcz11_1 : w7.cell? ⟨gb698, 1, none⟩ = some (.slice A0_1 l0_1.length c0_1) := (blk_cell BK698.out 1).trans rfl; have hfz11_0 := blk_frozen BK698.out 0; have hfz11_1 := blk_frozen BK698.out 1) | ((with_reducible refine gate_builtin (b := .append) (xs := #[.tmp 8, .tmp 10]) rfl ?_); at_builtin; refine Kd.R_append_rows k64 (w0 := w) w.heap.size rfl (.tmp 8) (.tmp 10) 56 64 (.agg #[(.int .i64 0), (.int .i64 0), (.string ⟨#[]⟩)]) 32 rfl Tryz.underlying56 info64 rfl (by decide) (by omega) (.slice none 0 0) ([] : List (S64)) l0_1 _ _ _ (fun _ => True) (fun _ => False) rfl rfl ?aO ?aR (fun _ _ h => h) (fun _ h => h.elim) ?aF ?aB ?aS ?aL ?_; (case aR => exact Kd.C_below HR0_1.out (bB3 GE698.out GE699.out GE700.out)); (case aB => exact (bB3 GE698.out GE699.out GE700.out)); (case aF => exact (fun _ _ => trivial)); (case aO => exact ((Kd.R_nil _ _ _ _ (fun _ => True)))); (case aS => exact (below_size (bB3 GE698.out GE699.out GE700.out))); (case aL => have := LMc2.out; omega); intro v702 w12 ho hb hg hat; rw [← Ny701.out] at ho; have n0_ := Aside0.mk (blk_grown (g := gb698) (o := .cells #[.string a0_0, .slice A0_1 l0_1.length c0_1] 58 (0, 0)) (by refine bk ?_; refine blk_far ?_ NB698_700.out _; refine bk ?_; refine blk_far ?_ NB698_700.out _; refine bk ?_; exact BK698.out) hg (by simp [Value.ownBlock])); have n1_ := Aside0.mk (blk_grown (g := gb699) (o := .cells #[.string (⟨#[]⟩ : ByteArray), .slice none 0 0] 58 (0, 0)) (by refine bk ?_; refine blk_far ?_ NB699_700.out _; refine bk ?_; refine blk_far ?_ NB699_700.out _; refine bk ?_; exact BK699.out) hg (by simp [Value.ownBlock])); have n2_ := Aside0.mk (blk_grown (g := gb700) (o := .cells #[.string a0_0, .slice none 0 0] 58 (0, 0)) (by refine bk ?_; refine blk_put (cs := #[.string a0_0, .slice none 0 0]) ?_ 1 _ rfl; refine bk ?_; refine blk_put (cs := #[.string (⟨#[]⟩ : ByteArray), .slice none 0 0]) ?_ 0 _ rfl; refine bk ?_; exact BK700.out) hg (by simp [Value.ownBlock])); have n3_ := Aside0.mk (hb); have n4_ := Aside0.mk (ho); clear BK698; clear BK699; clear BK700; clear HB; have BK698 := n0_; have BK699 := n1_; have BK700 := n2_; have HB := n3_; have HO703 := n4_; clear n0_ n1_ n2_ n3_ n4_; clear ho hb hg hat; obtain ⟨Ao13, co13, eo13⟩ := Kd.R_slice HO703.out; subst eo13; have hcz14_0 : w12.cell? ⟨gb700, 0, none⟩ = some (.string a0_0) := (blk_cell BK700.out 0).trans rfl; have hcz14_1 : w12.cell? ⟨gb700, 1, none⟩ = some (.slice none 0 0) := (blk_cell BK700.out 1).trans rfl; have hfz14_0 := blk_frozen BK700.out 0; have hfz14_1 := blk_frozen BK700.out 1; have hcz15_0 : w12.cell? ⟨gb699, 0, none⟩ = some (.string (⟨#[]⟩ : ByteArray)) := (blk_cell BK699.out 0).trans rfl; have hcz15_1 : w12.cell? ⟨gb699, 1, none⟩ = some (.slice none 0 0) := (blk_cell BK699.out 1).trans rfl; have hfz15_0 := blk_frozen BK699.out 0; have hfz15_1 := blk_frozen BK699.out 1))
  refine bodyPost_ret (results_cell_row rfl _ _ gb699 58 #[.string a0_0, .slice Ao13 y701.length co13] (0, 0) _ rfl (by refine bk ?_; refine blk_put (cs := #[.string a0_0, .slice none 0 0]) ?_ 1 _ rfl; refine bk ?_; refine blk_put (cs := #[.string (⟨#[]⟩ : ByteArray), .slice none 0 0]) ?_ 0 _ rfl; refine bk ?_; refine blk_far ?_ NB699_700.out _; refine bk ?_; exact BK699.out) Tryz.underlying58 rfl (by kernel_rfl)) rfl ?_
  exact ⟨_, eW, by (with_reducible repeat (first | apply Kd.R_alloc | apply Kd.R_drewN | apply Kd.R_drew)); exact Kd.R_mono (Kd.R_far (p := ⟨gb699, 1, none⟩) (Kd.R_far (p := ⟨gb699, 0, none⟩) (Kd.R_far (p := ⟨gb700, 1, none⟩) (Kd.R_types (Kd.R_types HO703.out BK700.out (by decide)) BK699.out (by decide)) (fun _ hk => hk.1.2) (.slice Ao13 y701.length co13)) (fun _ hk => hk.2) (.string a0_0)) (fun _ hk => hk.2) (.slice Ao13 y701.length co13)) (fun _ hk => trivial), (bB3 GE698.out GE699.out GE700.out)⟩
 ·rw [if_neg c2] at H
  exact absurd H (by simp)

end Go.Proofs.YtghommaokdhjmaaGreat.P
namespace Go.Proofs.YtghommaokdhjmaaGreat.P
open Go.RowKit Go.Proofs.YtghommaokdhjmaaGreatW.PrintWords Go.Proofs.YtghommaokdhjmaaGreatW.PrintLast Gate

def constablekeep_TwinFacts.l0 : Nat → List (S58) → List (S58) → Int → Option ((List (S58)))
 | 0, _, _, _ => none
 | k + 1, x0, x3, x4 => if x4 < (x0.length : Int) then (if 0 ≤ x4 then ((constablekeep_TwinFact.f ((rd_T58 x0 x4).f0) ((rd_T58 x0 x4).f1)).bind fun bt705 => (if x3.length < 3518437208883 then (constablekeep_TwinFacts.l0 k x0 (x3 ++ [(⟨bt705.1, bt705.2⟩ : S58)]) (wrap64 (x4 + 1))) else (none))) else (none)) else (some x3)
def constablekeep_TwinFacts.f (k : Nat) (l0 : List (S58)) : Option ((List (S58))) := constablekeep_TwinFacts.l0 k l0 ([] : List (S58)) 0
set_option maxHeartbeats 8000000 in
set_option maxRecDepth 100000 in
theorem constablekeep_TwinFacts.calls (k : Nat) (A0 : Option Addr) (c0 : Nat) (l0 : List (S58)) (r : List (S58)) (w : World) (hr0 : Kd.C k58 w A0 l0.length l0) (hc0 : l0.length ≤ c0) (h : constablekeep_TwinFacts.f k l0 = some r) :
  Calls Tryz.prog 13 #[.slice A0 l0.length c0] w fun e w' => ∃ v0_ : Value, e = .returned (v0_) ∧ Kd.S k58 58 w' w.heap.size (fun _ => True) v0_ r ∧ Below w.heap.size w w' := by
 have hu58 := Tryz.underlying58
 have HR0 := Aside0.mk hr0
 have HC0 := Aside0.mk hc0
 clear hr0 hc0
 have HB := Aside0.mk (Below.refl w.heap.size w)
 have H : (constablekeep_TwinFacts.l0 k l0 ([] : List (S58)) 0) = some r := h
 clear h
 have H' := Aside0.mk H
 clear H
 go_enter Tryz.func13, Tryz.ntmps13
 go_wp2
 go_loopg [3, 4] k (fun kq v3 v4 w' => ∃ (x3_1 : List (S58)) (x4_1 : Int), v4 = .int .i64 x4_1 ∧ Aside0 (constablekeep_TwinFacts.l0 kq l0 x3_1 x4_1 = some r) ∧ Aside0 (kq ≤ k) ∧ Aside0 (Kd.S k58 58 w' w.heap.size (fun _ => True) v3 x3_1) ∧ Aside0 (Below w.heap.size w w'))
 case atStart => exact ⟨(([] : List (S58))), (0), (by first | rfl | (simp; done) | (simp [*]; done)), H', ⟨Nat.le_refl _⟩, ⟨by first | exact Kd.S_nil _ _ _ _ _ | exact Kd.N_nil _ _ _ _ _ | exact Kd.V_nil _ _ _ _ _ | exact Kd.Q_nil _ _ _ _ _ | exact Kd.R_nil _ _ _ _ _⟩, ⟨bB0⟩⟩
 case round =>
  clear H'
  (try clear c1)
  obtain ⟨x3_1, x4_1, rfl, HA, HK1, HO_3, HB⟩ := hrel
  cases gk with
  | zero => exact absurd HA.out (by simp [constablekeep_TwinFacts.l0])
  | succ k1 =>
   have H := HA.out
   clear HA
   simp only [constablekeep_TwinFacts.l0] at H
   by_cases c2 : x4_1 < (l0.length : Int)
   ·rw [if_pos c2] at H
    have c2b0 : decide (x4_1 < (l0.length : Int)) = true := decide_eq_true c2
    clear c2
    by_cases c3 : 0 ≤ x4_1
    ·rw [if_pos c3] at H
     have c3b0 : decide (0 ≤ x4_1) = true := decide_eq_true c3
     clear c3
     replace H := Option.bind_eq_some_iff.mp H
     obtain ⟨⟨t705, t706⟩, A40, H⟩ := H
     replace H : (if x3_1.length < 3518437208883 then (constablekeep_TwinFacts.l0 k1 l0 (x3_1 ++ [(⟨t705, t706⟩ : S58)]) (wrap64 (x4_1 + 1))) else (none)) = some r := H
     have A4 := Aside0.mk A40
     clear A40
     by_cases c5 : x3_1.length < 3518437208883
     ·rw [if_pos c5] at H
      have LMc5 := Aside0.mk c5
      clear c5
      obtain ⟨y709, hy709⟩ : ∃ y_ : List (S58), y_ = (x3_1 ++ [(⟨t705, t706⟩ : S58)]) := ⟨_, rfl⟩
      replace H : (constablekeep_TwinFacts.l0 k1 l0 y709 (wrap64 (x4_1 + 1))) = some r := by first | (rw [hy709]; with_reducible exact H) | (have H2_ := (Option.bind_some _ _).symm.trans H; rw [hy709]; with_reducible exact H2_) | (have H2_ := (Option.bind_some _ _).symm.trans H; with_reducible exact H2_) | with_reducible exact H | (rw [hy709]; exact H) | exact H
      have Ny709 := Aside0.mk hy709
      clear hy709
      have H' := Aside0.mk H
      clear H
      have p704 : 0 ≤ (x4_1 : Int) := of_decide_eq_true (by first | (with_reducible assumption) | assumption)
      have q704 : x4_1 < (l0.length : Int) := of_decide_eq_true (by first | (with_reducible assumption) | assumption)
      obtain ⟨ad704, A704_1, c704_1, e704, hx704_0, hx704_1, hl704_1, hi704_1⟩ := at_T58 HR0.out x4_1 p704 q704
      cases e704
      have HZ704_1 := Aside0.mk hx704_1
      replace hx704_0 := (HB.out.cell (World.block_lt_of_cell? w _ hx704_0)).trans hx704_0
      replace hx704_1 := (HB.out.cell (World.block_lt_of_cell? w _ hx704_1)).trans hx704_1
      have HR704_1 := Aside0.mk hi704_1
      have HC704_1 := Aside0.mk hl704_1
      clear hi704_1 hl704_1
      replace p704 := eq_true p704
      replace q704 := eq_true q704
      go_wp2_with (first | ((with_reducible refine gate_callee (f := 31) rfl ?_); refine goesL_ (some 16) rfl rfl Tryz.func31 (by kernel_rfl) rfl #[.agg #[.string ((rd_T58 l0 x4_1).f0), .slice A704_1 ((rd_T58 l0 x4_1).f1).length c704_1]] rfl aG ?_; (with_reducible refine (constablekeep_TwinFact.calls ((rd_T58 l0 x4_1).f0) _ _ ((rd_T58 l0 x4_1).f1) t705 t706 _ ?side1 ?side2 A4.out).mono ?_); (case side1 => exact sC (Kd.C_below HR704_1.out HB.out)); (case side2 => exact HC704_1.out); rintro e w6 ⟨v707, rfl, ho0, hb⟩; refine ⟨_, rfl, ?_⟩; have n0_ := Aside0.mk (Kd.S_elder' (by (with_reducible repeat (first | apply Kd.S_alloc | apply Kd.S_drewN | apply Kd.S_drew)); exact HO_3.out) (Kd.R_base ho0) hb); have n1_ := Aside0.mk (Kd.R_lower ho0 (below_size bB0)); have n2_ := Aside0.mk (below_step bB0 hb); clear HO_3; clear HB; have HO_3 := n0_; have HO708 := n1_; have HB := n2_; clear n0_ n1_ n2_; (try clear hb); (try clear hb2); (try clear hk); (try clear hi); (try clear ho0); obtain ⟨Ao8, co8, eo8⟩ := Kd.R_slice HO708.out; subst eo8) | ((with_reducible refine gate_builtin (b := .append) (xs := #[.tmp 11, .tmp 17]) rfl ?_); at_builtin; refine Kd.S_append k58 (w0 := w) w.heap.size rfl (.tmp 11) (.tmp 17) 28 58 (.agg #[(.string ⟨#[]⟩), (.slice none 0 0)]) 40 rfl Tryz.underlying28 info58 rfl (by decide) (by omega) u3 x3_1 (⟨t705, t706⟩ : S58) [.string t705, .slice Ao8 t706.length co8] (fun _ => True) (fun k_ => some k_ = (.slice Ao8 t706.length co8 : Value).ownBlock) rfl rfl ?aP (fun k_ hk_ => ((Kd.R_mono (ok' := fun k_ => ((fun _ => True)) k_ ∧ some k_ ≠ (u3 : Value).ownBlock) (Kd.R_apart' (HO708.out) (Kd.S_typed HO_3.out) (by decide)) (fun k_ hk => ⟨trivial, hk.2⟩))).1 k_ hk_.symm) ?aF ?aO ?aB ?aS ?aL ?_; (case aP => exact k58_mkM _ _ _ (⟨t705, t706⟩ : S58) (Kd.R_mono (Kd.R_tight rfl (Kd.R_mono (ok' := fun k_ => ((fun _ => True)) k_ ∧ some k_ ≠ (u3 : Value).ownBlock) (Kd.R_apart' (HO708.out) (Kd.S_typed HO_3.out) (by decide)) (fun k_ hk => ⟨trivial, hk.2⟩))) (fun _ h_ => h_))); (case aB => exact bB0); (case aF => exact (fun _ _ => trivial)); (case aO => exact (by (with_reducible repeat (first | apply Kd.S_alloc | apply Kd.S_drewN | apply Kd.S_drew)); exact Kd.S_mono HO_3.out (fun k_ hk => ⟨trivial, fun e_ => hk.2 e_⟩))); (case aS => exact (below_size bB0)); (case aL => have := LMc5.out; omega); intro v710 w7 ho hb hg hat; rw [← Ny709.out] at ho; have n0_ := Aside0.mk (hb); have n1_ := Aside0.mk (ho); clear HB; clear HO_3; clear HO708; have HB := n0_; have HO711 := n1_; clear n0_ n1_; clear ho hb hg hat))
      go_roundg k1
      case measure => have := HK1.out; omega
      case rel => exact ⟨(y709), (wrap64 (x4_1 + 1)), (by first | rfl | (simp; done) | (simp [*]; done)), H', ⟨by have := HK1.out; omega⟩, ⟨by (with_reducible repeat (first | apply Kd.S_alloc | apply Kd.S_drewN | apply Kd.S_drew)); exact HO711.out⟩, ⟨bB0⟩⟩
     ·rw [if_neg c5] at H
      exact absurd H (by simp)
    ·rw [if_neg c3] at H
     exact absurd H (by simp)
   ·rw [if_neg c2] at H
    have c2b0 : decide (x4_1 < (l0.length : Int)) = false := decide_eq_false c2
    clear c2
    obtain rfl := Option.some.inj H
    go_wp2
    go_ret
    exact ⟨_, eW, by (with_reducible repeat (first | apply Kd.S_alloc | apply Kd.S_drewN | apply Kd.S_drew)); exact HO_3.out, bB0⟩

end Go.Proofs.YtghommaokdhjmaaGreat.P
/- The statements' copy of a trace with another one behind it: read as one trace. -/
namespace Go.Proofs.YtghommaokdhjmaaGreat.Sat
open Go.RowKit Go.Lib Go.Sort Go.Proofs.SymP Go.Proofs.YtghommaokdhjmaaGreatW.PrintWords P FactC IRow Frm SpecM SpecB PSat PSpec CmpF BothB SortStr Str
theorem twinF_loop (l : List S58) (hf : ∀ y ∈ l, fitF y) (hl : l.length ≤ 100000) : ∀ (m i : Nat), i + m = l.length → ∀ acc : List S58, acc.length ≤ i → Ev (fun k => constablekeep_TwinFacts.l0 k l acc i) (acc ++ l.drop i) := by
 intro m
 induction m with
 | zero =>
  intro i h acc _
  refine Ev.step (fun k => by rw [constablekeep_TwinFacts.l0, if_neg (by omega)]) ?_
  rw [List.drop_eq_nil_of_le (by omega), List.append_nil]
  exact Ev.now _
 | succ m ih =>
  intro i h acc ha
  have hi : i < l.length := by omega
  have hx := (hf l[i] (List.getElem_mem hi)).2.2
  refine Ev.step (fun k => by rw [constablekeep_TwinFacts.l0, if_pos (by omega), if_pos (by omega), rd58_get hi, constablekeep_TwinFact.f, if_pos (by simp; omega), Option.bind_some, if_pos (by omega), show wrap64 ((i : Int) + 1) = ((i + 1 : Nat) : Int) by unfold wrap64; omega]) ?_
  have := ih (i + 1) (by omega) (acc ++ [l[i]]) (by simp; omega)
  rw [List.drop_eq_getElem_cons hi]
  simpa using this
theorem ev_twinF {l : List S58} (hf : ∀ y ∈ l, fitF y) (hl : l.length ≤ 100000) : Ev (fun k => constablekeep_TwinFacts.f k l) l := by
 have := twinF_loop l hf hl l.length 0 (by omega) [] (by simp)
 simpa [constablekeep_TwinFacts.f] using this
def OwnF (W : World) (b : Nat) (v : Value) (xs : List S58) : Prop := ∃ ui, W.ownsRow b 58 2 v xs.length ui ∧ Reps (k58.M W b (fun k => v.ownBlock ≠ some k ∧ k < W.heap.size)) 2 xs ui
theorem twinF_calls {w : World} {T : Option Addr} {tn tc : Nat} {t : List S58} (ht : TRow w T tn tc t) (hf : ∀ y ∈ t, fitF y) (hl : tn ≤ 100000) : Calls Tryz.prog 13 #[.slice T tn tc] w fun e w' => ∃ A1 c1, e = .returned (.slice A1 tn c1) ∧ OwnF w' w.heap.size (.slice A1 tn c1) t ∧ Go.RowKit.Below w.heap.size w w' := by
 obtain rfl := ht.len
 obtain ⟨k, hk⟩ := (ev_twinF hf hl).rounds
 refine (constablekeep_TwinFacts.calls k T tc t t w ht.C ht.cap hk).mono ?_
 rintro e w' ⟨v, rfl, hS, hb⟩
 obtain ⟨A1, c1, rfl, _, _⟩ := Kd.S_reads hS
 obtain ⟨_, inner, ho, hr⟩ := Kd.R_bound (Kd.S_R hS)
 exact ⟨A1, c1, rfl, ⟨inner, ho, hr.imp_ (fun _ _ hp => k58.M_mono (fun k hk => ⟨fun e => hk.2 e.symm, hk.1.2.2.1⟩) hp)⟩, hb⟩
theorem infoF : (Tryz.prog.info? 58).map (fun i => (i.zero, i.size, i.bytes)) = some (some (.agg #[.string ⟨#[]⟩, .slice none 0 0]), 2, 40) := by kernel_rfl
theorem reps_one {W : World} {ys : List S58} {news : List Value} (h : Reps (k58.K W) 2 ys news) : ∀ u ∈ news, u.oneCell' = true := by
 intro u hu
 obtain ⟨j, hj, rfl⟩ := List.getElem_of_mem hu
 have hl := h.1
 have hj2 : j / 2 < ys.length := by omega
 refine k58.K_one (h.2 (j / 2) _ (List.getElem?_eq_getElem hj2)) _ ?_
 refine List.mem_of_getElem? (i := j % 2) ?_
 rw [List.getElem?_take, if_pos (by omega), List.getElem?_drop, show j / 2 * 2 + j % 2 = j by omega, List.getElem?_eq_getElem hj]
theorem appendF {w W : World} {A1 M : Option Addr} {tn c1 mn mc : Nat} {xs ys : List S58} (h : OwnF W w.heap.size (.slice A1 tn c1) xs) (hx : xs.length = tn) (hy : TRow w M mn mc ys) (hb : Go.RowKit.Below w.heap.size w W) (hl : tn + mn ≤ 1000000) :
  ∃ A' c' w', (∀ ty, (Builtin.append_ #[28, 28] ty #[.slice A1 tn c1, .slice M mn mc]).run Tryz.prog W = .ok (.slice A' (tn + mn) c') w') ∧ TRow w' A' (tn + mn) c' (xs ++ ys) ∧ Go.RowKit.Below w.heap.size W w' := by
 subst hx
 have hin := infoF
 rcases hinf : Tryz.prog.info? 58 with _ | i
 ·rw [hinf] at hin; cases hin
 rw [hinf] at hin
 simp only [Option.map_some, Option.some.injEq, Prod.mk.injEq] at hin
 obtain ⟨hz, hsz, hby⟩ := hin
 have ht : Tryz.prog.underlying 28 = some (.slice 58) := Tryz.underlying28
 have hyl := hy.len
 have hyW := hy.below hb
 obtain ⟨ui, ho, hr⟩ := h
 rcases M with _ | ad
 ·have h0 : mn = 0 := by
   rcases Nat.eq_zero_or_pos mn with h0 | h0
   ·exact h0
   ·obtain ⟨ad, e, _⟩ := hy.C.2.2 h0
    cases e
  subst h0
  obtain rfl : ys = [] := List.eq_nil_of_length_eq_zero hyl
  refine ⟨A1, c1, W, fun ty => ?_, ?_, Go.RowKit.Below.refl _ _⟩
  ·rcases ho.2 with ⟨e, hn⟩ | ⟨g, cap, cur, e, _, _, hnc, _⟩
   ·obtain ⟨e1, e2, e3⟩ := Value.slice.inj e
    rw [e1, e3]
    simp [Builtin.append_, run_underlying ht, sizeOf, typeInfo, hinf, Builtin.lenOf, Builtin.firstCells, hn]
   ·obtain ⟨e1, e2, e3⟩ := Value.slice.inj e
    rw [e1, e3]
    simp [Builtin.append_, run_underlying ht, sizeOf, typeInfo, hinf, Builtin.lenOf, Builtin.firstCells, hnc, storeCells]
  obtain ⟨A', c', e, hR⟩ := own_reads_row ho (hr.imp_ (fun x cs hp => k58.K_of_M hp)) rfl
  injection e with e1 e2 e3
  subst e1
  rw [List.append_nil]
  exact ⟨rfl, own_le ho, hR⟩
 ·obtain ⟨inner, hr2, hc2⟩ := ReadsRow.inner_ hyW.C
  obtain ⟨inner', hr3, hc3⟩ := ReadsRow.inner_ hy.C
  have hi : inner' = inner := by
   refine List.ext_getElem (by rw [hr2.1, hr3.1]) (fun j h1 h2 => ?_)
   have e1 := hc2 j _ (List.getElem?_eq_getElem h2)
   have e2 := hc3 j _ (List.getElem?_eq_getElem h1)
   rw [(hb.cell (World.block_lt_of_cell? _ _ e2)), e2] at e1
   exact Option.some.inj e1
  subst hi
  obtain ⟨v', w', hrun, ho', hg, _, _⟩ := run_append_own_at (P := Tryz.prog) W w.heap.size 28 0 58 i _ 2 40 ht hinf hz hsz hby (by rfl) (by decide) (.slice A1 xs.length c1) xs.length ui ho ad mn mc inner' (by rw [hr3.1, hyl]; rfl) hc2 (reps_one hr2) (by unfold maxLen; omega) (by omega) hb.size
  have hbw : Go.RowKit.Below w.heap.size W w' := (Go.RowKit.Below.refl w.heap.size W).grown hg hb.size (fun k hk => (ho.lt k hk).1)
  obtain ⟨A', c', rfl⟩ := own_slice ho'
  refine ⟨A', c', w', fun ty => hrun, ?_, hbw⟩
  have hR : Reps (k58.K w') 2 (xs ++ ys) (ui ++ inner') := Kd.reps_append (hr.imp_ (fun x cs hp => k58.K_of_M (Kd.M_step hp (fun k hk _ => hg.block k hk.2 (fun e => hk.1 e.symm))))) (hr3.imp_ (fun x cs hp => k58.K_below (hb.trans hbw) hp))
  have hll : (xs ++ ys).length = xs.length + mn := by rw [List.length_append, hyl]
  rw [← hll] at ho' ⊢
  obtain ⟨A2, c2, e, hC⟩ := own_reads_row ho' hR rfl
  injection e with e1 e2 e3
  subst e1
  exact ⟨rfl, own_le ho', hC⟩
section
variable {P : Program} {ops : Array Oper} {o : Oper} {a : Act} {Q : Exit → Act → World → Prop} {K : Act → World → Prop}
theorem step_appendF {w W : World} (hw : Region.wanted o (yielded ops a.tmps) = true) (s x : Operand) (ho : o.op = .call { callee := .builtin .append, args := #[s, x], argTypes := #[28, 28] }) (A1 M : Option Addr) (tn c1 mn mc : Nat) (xs ys : List S58) (hs : a.eval s = .slice A1 tn c1) (hx : a.eval x = .slice M mn mc)
  (hO : OwnF W w.heap.size (.slice A1 tn c1) xs) (hn : xs.length = tn) (hy : TRow w M mn mc ys) (hb : Go.RowKit.Below w.heap.size w W) (hl : tn + mn ≤ 1000000)
  (h : ∀ A' c' w', TRow w' A' (tn + mn) c' (xs ++ ys) → Go.RowKit.Below w.heap.size W w' → K (a.put o.dst (.slice A' (tn + mn) c')) w') :
  if Region.wanted o (yielded ops a.tmps) = true then Oper.wp Tryz.prog o a W K Q else K (a.put o.dst undef) W := by
 rw [if_pos hw]
 obtain ⟨A', c', w', happ, h1, h2⟩ := appendF hO hn hy hb hl
 exact Lib.wp_append_run W s x _ _ ho _ _ hs hx _ w' (happ _) (h A' c' w' h1 h2)
end
end Go.Proofs.YtghommaokdhjmaaGreat.Sat
namespace Go.Proofs.YtghommaokdhjmaaGreat.P
open Go.RowKit Go.Proofs.YtghommaokdhjmaaGreatW.PrintWords Go.Proofs.YtghommaokdhjmaaGreatW.PrintLast Gate

def constableref01_In.f (a0 : Int) (a1 : Int) (a2 : Int) : Option (Bool) := if a0 ≥ a1 then (some (decide (a0 ≤ a2))) else (some false)
set_option maxHeartbeats 8000000 in
set_option maxRecDepth 100000 in
theorem constableref01_In.calls (a0 : Int) (a1 : Int) (a2 : Int) (r : Bool) (w : World) (h : constableref01_In.f a0 a1 a2 = some r) :
  Calls Tryz.prog 80 #[.int .i64 a0, .int .i64 a1, .int .i64 a2] w fun e w' => e = .returned (.bool r) ∧ Drawn0 w w' := by
 have H : (if a0 ≥ a1 then (some (decide (a0 ≤ a2))) else (some false)) = some r := h
 clear h
 by_cases c4 : a0 ≥ a1
 ·rw [if_pos c4] at H
  have c4b0 : decide (a1 ≤ a0) = true := decide_eq_true c4
  clear c4
  obtain rfl := Option.some.inj H
  go_enter Tryz.func80, Tryz.ntmps80
  go_wp2
  go_ret
  exact ⟨by first | rfl | (simp; done) | (simp [*]; done), by repeat (first | exact Drawn0.refl _ | apply Drawn0.step)⟩
 ·rw [if_neg c4] at H
  have c4b0 : decide (a1 ≤ a0) = false := decide_eq_false c4
  clear c4
  obtain rfl := Option.some.inj H
  go_enter Tryz.func80, Tryz.ntmps80
  go_wp2
  go_ret
  exact ⟨by first | rfl | (simp; done) | (simp [*]; done), by repeat (first | exact Drawn0.refl _ | apply Drawn0.step)⟩

end Go.Proofs.YtghommaokdhjmaaGreat.P
namespace Go.Proofs.YtghommaokdhjmaaGreat.P
open Go.RowKit Go.Proofs.YtghommaokdhjmaaGreatW.PrintWords Go.Proofs.YtghommaokdhjmaaGreatW.PrintLast Gate

def constableref01_Upper.f (a0 : Int) : Option (Bool) := if a0 ≥ 65 then (some (decide (a0 ≤ 90))) else (some false)
set_option maxHeartbeats 8000000 in
set_option maxRecDepth 100000 in
theorem constableref01_Upper.calls (a0 : Int) (r : Bool) (w : World) (h : constableref01_Upper.f a0 = some r) :
  Calls Tryz.prog 81 #[.int .u8 a0] w fun e w' => e = .returned (.bool r) ∧ Drawn0 w w' := by
 have H : (if a0 ≥ 65 then (some (decide (a0 ≤ 90))) else (some false)) = some r := h
 clear h
 by_cases c2 : a0 ≥ 65
 ·rw [if_pos c2] at H
  have c2b0 : decide (65 ≤ a0) = true := decide_eq_true c2
  clear c2
  obtain rfl := Option.some.inj H
  go_enter Tryz.func81, Tryz.ntmps81
  go_wp2
  go_ret
  exact ⟨by first | rfl | (simp; done) | (simp [*]; done), by repeat (first | exact Drawn0.refl _ | apply Drawn0.step)⟩
 ·rw [if_neg c2] at H
  have c2b0 : decide (65 ≤ a0) = false := decide_eq_false c2
  clear c2
  obtain rfl := Option.some.inj H
  go_enter Tryz.func81, Tryz.ntmps81
  go_wp2
  go_ret
  exact ⟨by first | rfl | (simp; done) | (simp [*]; done), by repeat (first | exact Drawn0.refl _ | apply Drawn0.step)⟩

end Go.Proofs.YtghommaokdhjmaaGreat.P
namespace Go.Proofs.YtghommaokdhjmaaGreat.P
open Go.RowKit Go.Proofs.YtghommaokdhjmaaGreatW.PrintWords Go.Proofs.YtghommaokdhjmaaGreatW.PrintLast Gate

def constableref01_Lower.f (a0 : Int) : Option (Bool) := if a0 ≥ 97 then (some (decide (a0 ≤ 122))) else (some false)
set_option maxHeartbeats 8000000 in
set_option maxRecDepth 100000 in
theorem constableref01_Lower.calls (a0 : Int) (r : Bool) (w : World) (h : constableref01_Lower.f a0 = some r) :
  Calls Tryz.prog 82 #[.int .u8 a0] w fun e w' => e = .returned (.bool r) ∧ Drawn0 w w' := by
 have H : (if a0 ≥ 97 then (some (decide (a0 ≤ 122))) else (some false)) = some r := h
 clear h
 by_cases c2 : a0 ≥ 97
 ·rw [if_pos c2] at H
  have c2b0 : decide (97 ≤ a0) = true := decide_eq_true c2
  clear c2
  obtain rfl := Option.some.inj H
  go_enter Tryz.func82, Tryz.ntmps82
  go_wp2
  go_ret
  exact ⟨by first | rfl | (simp; done) | (simp [*]; done), by repeat (first | exact Drawn0.refl _ | apply Drawn0.step)⟩
 ·rw [if_neg c2] at H
  have c2b0 : decide (97 ≤ a0) = false := decide_eq_false c2
  clear c2
  obtain rfl := Option.some.inj H
  go_enter Tryz.func82, Tryz.ntmps82
  go_wp2
  go_ret
  exact ⟨by first | rfl | (simp; done) | (simp [*]; done), by repeat (first | exact Drawn0.refl _ | apply Drawn0.step)⟩

end Go.Proofs.YtghommaokdhjmaaGreat.P
namespace Go.Proofs.YtghommaokdhjmaaGreat.P
open Go.RowKit Go.Proofs.YtghommaokdhjmaaGreatW.PrintWords Go.Proofs.YtghommaokdhjmaaGreatW.PrintLast Gate

def constableref01_Digit.f (a0 : Int) : Option (Bool) := if a0 ≥ 48 then (some (decide (a0 ≤ 57))) else (some false)
set_option maxHeartbeats 8000000 in
set_option maxRecDepth 100000 in
theorem constableref01_Digit.calls (a0 : Int) (r : Bool) (w : World) (h : constableref01_Digit.f a0 = some r) :
  Calls Tryz.prog 108 #[.int .u8 a0] w fun e w' => e = .returned (.bool r) ∧ Drawn0 w w' := by
 have H : (if a0 ≥ 48 then (some (decide (a0 ≤ 57))) else (some false)) = some r := h
 clear h
 by_cases c2 : a0 ≥ 48
 ·rw [if_pos c2] at H
  have c2b0 : decide (48 ≤ a0) = true := decide_eq_true c2
  clear c2
  obtain rfl := Option.some.inj H
  go_enter Tryz.func108, Tryz.ntmps108
  go_wp2
  go_ret
  exact ⟨by first | rfl | (simp; done) | (simp [*]; done), by repeat (first | exact Drawn0.refl _ | apply Drawn0.step)⟩
 ·rw [if_neg c2] at H
  have c2b0 : decide (48 ≤ a0) = false := decide_eq_false c2
  clear c2
  obtain rfl := Option.some.inj H
  go_enter Tryz.func108, Tryz.ntmps108
  go_wp2
  go_ret
  exact ⟨by first | rfl | (simp; done) | (simp [*]; done), by repeat (first | exact Drawn0.refl _ | apply Drawn0.step)⟩

end Go.Proofs.YtghommaokdhjmaaGreat.P
namespace Go.Proofs.YtghommaokdhjmaaGreat.P
open Go.RowKit Go.Proofs.YtghommaokdhjmaaGreatW.PrintWords Go.Proofs.YtghommaokdhjmaaGreatW.PrintLast Gate

def constableref01_inner.f (a0 : Int) : Option (Bool) := (constableref01_Lower.f a0).bind fun t712 => (if t712 = true then (some true) else ((constableref01_Upper.f a0).bind fun t713 => (if t713 = true then (some true) else ((constableref01_Digit.f a0).bind fun t714 => (if t714 = true then (some true) else (some (a0 == 95)))))))
set_option maxHeartbeats 8000000 in
set_option maxRecDepth 100000 in
theorem constableref01_inner.calls (a0 : Int) (r : Bool) (w : World) (h : constableref01_inner.f a0 = some r) :
  Calls Tryz.prog 83 #[.int .u8 a0] w fun e w' => e = .returned (.bool r) ∧ Drawn0 w w' := by
 have H : ((constableref01_Lower.f a0).bind fun t712 => (if t712 = true then (some true) else ((constableref01_Upper.f a0).bind fun t713 => (if t713 = true then (some true) else ((constableref01_Digit.f a0).bind fun t714 => (if t714 = true then (some true) else (some (a0 == 95)))))))) = some r := h
 clear h
 replace H := Option.bind_eq_some_iff.mp H
 obtain ⟨t712, A20, H⟩ := H
 replace H : (if t712 = true then (some true) else ((constableref01_Upper.f a0).bind fun t713 => (if t713 = true then (some true) else ((constableref01_Digit.f a0).bind fun t714 => (if t714 = true then (some true) else (some (a0 == 95))))))) = some r := H
 have A2 := Aside0.mk A20
 clear A20
 by_cases c3 : t712 = true
 ·subst c3
  have H1 : (some true) = some r := by rw [if_pos rfl] at H; exact H
  clear H
  have H := H1
  clear H1
  obtain rfl := Option.some.inj H
  go_enter Tryz.func83, Tryz.ntmps83
  go_wp2_with (first | ((with_reducible refine gate_callee (f := 82) rfl ?_); refine goesL_ (some 4) rfl rfl Tryz.func82 (by kernel_rfl) rfl #[.int .u8 a0] rfl aG ?_; (with_reducible refine (constableref01_Lower.calls a0 true _ A2.out).mono ?_); rintro e w' ⟨rfl, ⟨nd, rfl⟩⟩; refine ⟨_, rfl, ?_⟩))
  go_ret
  exact ⟨by first | rfl | (simp; done) | (simp [*]; done), by repeat (first | exact Drawn0.refl _ | apply Drawn0.step)⟩
 ·replace c3 := Bool.eq_false_iff.mpr c3
  subst c3
  have H1 : ((constableref01_Upper.f a0).bind fun t713 => (if t713 = true then (some true) else ((constableref01_Digit.f a0).bind fun t714 => (if t714 = true then (some true) else (some (a0 == 95)))))) = some r := by rw [if_neg (show ¬ (false = true) by decide)] at H; exact H
  clear H
  have H := H1
  clear H1
  replace H := Option.bind_eq_some_iff.mp H
  obtain ⟨t713, A40, H⟩ := H
  replace H : (if t713 = true then (some true) else ((constableref01_Digit.f a0).bind fun t714 => (if t714 = true then (some true) else (some (a0 == 95))))) = some r := H
  have A4 := Aside0.mk A40
  clear A40
  by_cases c5 : t713 = true
  ·subst c5
   have H1 : (some true) = some r := by rw [if_pos rfl] at H; exact H
   clear H
   have H := H1
   clear H1
   obtain rfl := Option.some.inj H
   go_enter Tryz.func83, Tryz.ntmps83
   go_wp2_with (first | ((with_reducible refine gate_callee (f := 82) rfl ?_); refine goesL_ (some 4) rfl rfl Tryz.func82 (by kernel_rfl) rfl #[.int .u8 a0] rfl aG ?_; (with_reducible refine (constableref01_Lower.calls a0 false _ A2.out).mono ?_); rintro e w' ⟨rfl, ⟨nd, rfl⟩⟩; refine ⟨_, rfl, ?_⟩) | (go_at_call 81; (with_reducible refine (constableref01_Upper.calls a0 true _ A4.out).mono ?_); rintro e w' ⟨rfl, ⟨nd, rfl⟩⟩))
   go_ret
   exact ⟨by first | rfl | (simp; done) | (simp [*]; done), by repeat (first | exact Drawn0.refl _ | apply Drawn0.step)⟩
  ·replace c5 := Bool.eq_false_iff.mpr c5
   subst c5
   have H1 : ((constableref01_Digit.f a0).bind fun t714 => (if t714 = true then (some true) else (some (a0 == 95)))) = some r := by rw [if_neg (show ¬ (false = true) by decide)] at H; exact H
   clear H
   have H := H1
   clear H1
   replace H := Option.bind_eq_some_iff.mp H
   obtain ⟨t714, A60, H⟩ := H
   replace H : (if t714 = true then (some true) else (some (a0 == 95))) = some r := H
   have A6 := Aside0.mk A60
   clear A60
   by_cases c7 : t714 = true
   ·subst c7
    have H1 : (some true) = some r := by rw [if_pos rfl] at H; exact H
    clear H
    have H := H1
    clear H1
    obtain rfl := Option.some.inj H
    go_enter Tryz.func83, Tryz.ntmps83
    go_wp2_with (first | ((with_reducible refine gate_callee (f := 82) rfl ?_); refine goesL_ (some 4) rfl rfl Tryz.func82 (by kernel_rfl) rfl #[.int .u8 a0] rfl aG ?_; (with_reducible refine (constableref01_Lower.calls a0 false _ A2.out).mono ?_); rintro e w' ⟨rfl, ⟨nd, rfl⟩⟩; refine ⟨_, rfl, ?_⟩) | (go_at_call 81; (with_reducible refine (constableref01_Upper.calls a0 false _ A4.out).mono ?_); rintro e w' ⟨rfl, ⟨nd, rfl⟩⟩) | (go_at_call 108; (with_reducible refine (constableref01_Digit.calls a0 true _ A6.out).mono ?_); rintro e w' ⟨rfl, ⟨nd, rfl⟩⟩))
    go_ret
    exact ⟨by first | rfl | (simp; done) | (simp [*]; done), by repeat (first | exact Drawn0.refl _ | apply Drawn0.step)⟩
   ·replace c7 := Bool.eq_false_iff.mpr c7
    subst c7
    have H1 : (some (a0 == 95)) = some r := by rw [if_neg (show ¬ (false = true) by decide)] at H; exact H
    clear H
    have H := H1
    clear H1
    obtain rfl := Option.some.inj H
    go_enter Tryz.func83, Tryz.ntmps83
    go_wp2_with (first | ((with_reducible refine gate_callee (f := 82) rfl ?_); refine goesL_ (some 4) rfl rfl Tryz.func82 (by kernel_rfl) rfl #[.int .u8 a0] rfl aG ?_; (with_reducible refine (constableref01_Lower.calls a0 false _ A2.out).mono ?_); rintro e w' ⟨rfl, ⟨nd, rfl⟩⟩; refine ⟨_, rfl, ?_⟩) | (go_at_call 81; (with_reducible refine (constableref01_Upper.calls a0 false _ A4.out).mono ?_); rintro e w' ⟨rfl, ⟨nd, rfl⟩⟩) | (go_at_call 108; (with_reducible refine (constableref01_Digit.calls a0 false _ A6.out).mono ?_); rintro e w' ⟨rfl, ⟨nd, rfl⟩⟩))
    go_ret
    exact ⟨by first | rfl | (simp; done) | (simp [*]; done), by repeat (first | exact Drawn0.refl _ | apply Drawn0.step)⟩

end Go.Proofs.YtghommaokdhjmaaGreat.P
namespace Go.Proofs.YtghommaokdhjmaaGreat.P
open Go.RowKit Go.Proofs.YtghommaokdhjmaaGreatW.PrintWords Go.Proofs.YtghommaokdhjmaaGreatW.PrintLast Gate

mutual
def constableref01_Word.j0 : Nat → ByteArray → Bool → Option (Bool)
 | 0, _, _ => none
 | k + 1, x0, x26 => if x26 = true then (some false) else (constableref01_Word.l0 k x0 0)
def constableref01_Word.l0 : Nat → ByteArray → Int → Option (Bool)
 | 0, _, _ => none
 | k + 1, x0, x5 => if x5 < (x0.size : Int) then (if 0 ≤ x5 then ((constableref01_inner.f (bt x0 x5)).bind fun t718 => (if t718 = true then (constableref01_Word.l0 k x0 (wrap64 (x5 + 1))) else (some false))) else (none)) else (some true)
end
def constableref01_Word.f (k : Nat) (a0 : ByteArray) (a1 : Bool) : Option (Bool) := (constableref01_In.f (a0.size : Int) 1 24).bind fun t715 => (if t715 = true then (if 0 < (a0.size : Int) then ((constableref01_Upper.f (bt a0 0)).bind fun t716 => (if (a1 != t716) = true then (constableref01_Word.j0 k a0 true) else (if a1 = true then (constableref01_Word.j0 k a0 false) else ((constableref01_Lower.f (bt a0 0)).bind fun t717 => (constableref01_Word.j0 k a0 (!t717)))))) else (none)) else (constableref01_Word.j0 k a0 true))
set_option maxHeartbeats 8000000 in
set_option maxRecDepth 100000 in
theorem constableref01_Word.calls (k : Nat) (a0 : ByteArray) (a1 : Bool) (r : Bool) (w : World) (h : constableref01_Word.f k a0 a1 = some r) :
  Calls Tryz.prog 51 #[.string a0, .bool a1] w fun e w' => e = .returned (.bool r) ∧ Drawn0 w w' := by
 have H : ((constableref01_In.f (a0.size : Int) 1 24).bind fun t715 => (if t715 = true then (if 0 < (a0.size : Int) then ((constableref01_Upper.f (bt a0 0)).bind fun t716 => (if (a1 != t716) = true then (constableref01_Word.j0 k a0 true) else (if a1 = true then (constableref01_Word.j0 k a0 false) else ((constableref01_Lower.f (bt a0 0)).bind fun t717 => (constableref01_Word.j0 k a0 (!t717)))))) else (none)) else (constableref01_Word.j0 k a0 true))) = some r := h
 clear h
 have HC3 := Aside0.mk H
 clear H
 go_enter Tryz.func51, Tryz.ntmps51
 go_upto_region 1 with (fail)
 go_cut [26] (fun v26 wc => ∃ (kq : Nat) (x26_2 : Bool), v26 = .bool x26_2 ∧ Aside0 (constableref01_Word.j0 kq a0 x26_2 = some r) ∧ Aside0 (kq ≤ k) ∧ Drawn0 w wc)
 case first =>
  have H := HC3.out
  clear HC3
  replace H := Option.bind_eq_some_iff.mp H
  obtain ⟨t715, A40, H⟩ := H
  replace H : (if t715 = true then (if 0 < (a0.size : Int) then ((constableref01_Upper.f (bt a0 0)).bind fun t716 => (if (a1 != t716) = true then (constableref01_Word.j0 k a0 true) else (if a1 = true then (constableref01_Word.j0 k a0 false) else ((constableref01_Lower.f (bt a0 0)).bind fun t717 => (constableref01_Word.j0 k a0 (!t717)))))) else (none)) else (constableref01_Word.j0 k a0 true)) = some r := H
  have A4 := Aside0.mk A40
  clear A40
  by_cases c5 : t715 = true
  ·subst c5
   have H1 : (if 0 < (a0.size : Int) then ((constableref01_Upper.f (bt a0 0)).bind fun t716 => (if (a1 != t716) = true then (constableref01_Word.j0 k a0 true) else (if a1 = true then (constableref01_Word.j0 k a0 false) else ((constableref01_Lower.f (bt a0 0)).bind fun t717 => (constableref01_Word.j0 k a0 (!t717)))))) else (none)) = some r := by rw [if_pos rfl] at H; exact H
   clear H
   have H := H1
   clear H1
   by_cases c6 : 0 < (a0.size : Int)
   ·rw [if_pos c6] at H
    have c6b0 : decide (0 < (a0.size : Int)) = true := decide_eq_true c6
    have c6b1 : decide (0 < a0.size) = true := decide_eq_true (by omega)
    clear c6
    (first | rw [c6b0] | (simp only [i64_w, i32_w]; rw [c6b0]) | skip)
    replace H := Option.bind_eq_some_iff.mp H
    obtain ⟨t716, A80, H⟩ := H
    replace H : (if (a1 != t716) = true then (constableref01_Word.j0 k a0 true) else (if a1 = true then (constableref01_Word.j0 k a0 false) else ((constableref01_Lower.f (bt a0 0)).bind fun t717 => (constableref01_Word.j0 k a0 (!t717))))) = some r := H
    have A8 := Aside0.mk A80
    clear A80
    by_cases c9 : (a1 != t716) = true
    ·rw [if_pos c9] at H
     have c9b0 : (a1 != t716) = true := c9
     (try (have c9b1 : decide (a1 = t716) = false := by simpa using c9))
     (try (have c9b2 : (a1 == t716) = false := by simpa using c9))
     (try (have c9b3 : ¬ (a1 = t716) := by simpa using c9))
     clear c9
     have H' := Aside0.mk H
     clear H
     go_wp2_with (first | ((with_reducible refine gate_callee (f := 80) rfl ?_); refine goesL_ (some 8) rfl rfl Tryz.func80 (by kernel_rfl) rfl #[.int .i64 (a0.size : Int), .int .i64 1, .int .i64 24] rfl aG ?_; (with_reducible refine (constableref01_In.calls (a0.size : Int) 1 24 true _ A4.out).mono ?_); rintro e w' ⟨rfl, ⟨nd, rfl⟩⟩; refine ⟨_, rfl, ?_⟩; have p7 : 0 ≤ (0 : Int) := (by omega); have q7 : 0 < a0.size := (by have : (0 : Int) < (a0.size : Int) := of_decide_eq_true (by first | (with_reducible assumption) | assumption); omega); have hx7 : ∀ h : 0 < a0.size, ((a0[0]'h).toNat : Int) = bt a0 0 := bt_at a0 0; clear p7; have qi7 : (0 < (a0.size : Int)) = True := eq_true (of_decide_eq_true (by first | (with_reducible assumption) | assumption)); replace q7 := eq_true q7) | (go_at_call 81; (with_reducible refine (constableref01_Upper.calls (bt a0 0) t716 _ A8.out).mono ?_); rintro e w' ⟨rfl, ⟨nd, rfl⟩⟩))
     go_meet
     case rel => exact ⟨_, (true), (by first | rfl | (simp; done) | (simp [*]; done)), H', ⟨by first | omega | exact Nat.le_refl _⟩, by repeat (first | exact Drawn0.refl _ | apply Drawn0.step)⟩
    ·rw [if_neg c9] at H
     have c9b0 : (a1 != t716) = false := by simpa using c9
     (try (have c9b1 : decide (a1 = t716) = true := by simpa using c9))
     (try (have c9b2 : (a1 == t716) = true := by simpa using c9))
     clear c9
     by_cases c10 : a1 = true
     ·subst c10
      have H1 : (constableref01_Word.j0 k a0 false) = some r := by rw [if_pos rfl] at H; exact H
      clear H
      have H := H1
      clear H1
      have H' := Aside0.mk H
      clear H
      go_wp2_with (first | ((with_reducible refine gate_callee (f := 80) rfl ?_); refine goesL_ (some 8) rfl rfl Tryz.func80 (by kernel_rfl) rfl #[.int .i64 (a0.size : Int), .int .i64 1, .int .i64 24] rfl aG ?_; (with_reducible refine (constableref01_In.calls (a0.size : Int) 1 24 true _ A4.out).mono ?_); rintro e w' ⟨rfl, ⟨nd, rfl⟩⟩; refine ⟨_, rfl, ?_⟩; have p7 : 0 ≤ (0 : Int) := (by omega); have q7 : 0 < a0.size := (by have : (0 : Int) < (a0.size : Int) := of_decide_eq_true (by first | (with_reducible assumption) | assumption); omega); have hx7 : ∀ h : 0 < a0.size, ((a0[0]'h).toNat : Int) = bt a0 0 := bt_at a0 0; clear p7; have qi7 : (0 < (a0.size : Int)) = True := eq_true (of_decide_eq_true (by first | (with_reducible assumption) | assumption)); replace q7 := eq_true q7) | (go_at_call 81; (with_reducible refine (constableref01_Upper.calls (bt a0 0) t716 _ A8.out).mono ?_); rintro e w' ⟨rfl, ⟨nd, rfl⟩⟩))
      go_meet
      case rel => exact ⟨_, (false), (by first | rfl | (simp; done) | (simp [*]; done)), H', ⟨by first | omega | exact Nat.le_refl _⟩, by repeat (first | exact Drawn0.refl _ | apply Drawn0.step)⟩
     ·replace c10 := Bool.eq_false_iff.mpr c10
      subst c10
      have H1 : ((constableref01_Lower.f (bt a0 0)).bind fun t717 => (constableref01_Word.j0 k a0 (!t717))) = some r := by rw [if_neg (show ¬ (false = true) by decide)] at H; exact H
      clear H
      have H := H1
      clear H1
      replace H := Option.bind_eq_some_iff.mp H
      obtain ⟨t717, A120, H⟩ := H
      replace H : (constableref01_Word.j0 k a0 (!t717)) = some r := H
      have A12 := Aside0.mk A120
      clear A120
      have H' := Aside0.mk H
      clear H
      go_wp2_with (first | ((with_reducible refine gate_callee (f := 80) rfl ?_); refine goesL_ (some 8) rfl rfl Tryz.func80 (by kernel_rfl) rfl #[.int .i64 (a0.size : Int), .int .i64 1, .int .i64 24] rfl aG ?_; (with_reducible refine (constableref01_In.calls (a0.size : Int) 1 24 true _ A4.out).mono ?_); rintro e w' ⟨rfl, ⟨nd, rfl⟩⟩; refine ⟨_, rfl, ?_⟩; have p7 : 0 ≤ (0 : Int) := (by omega); have q7 : 0 < a0.size := (by have : (0 : Int) < (a0.size : Int) := of_decide_eq_true (by first | (with_reducible assumption) | assumption); omega); have hx7 : ∀ h : 0 < a0.size, ((a0[0]'h).toNat : Int) = bt a0 0 := bt_at a0 0; clear p7; have qi7 : (0 < (a0.size : Int)) = True := eq_true (of_decide_eq_true (by first | (with_reducible assumption) | assumption)); replace q7 := eq_true q7) | (go_at_call 81; (with_reducible refine (constableref01_Upper.calls (bt a0 0) t716 _ A8.out).mono ?_); rintro e w' ⟨rfl, ⟨nd, rfl⟩⟩; have p11 : 0 ≤ (0 : Int) := (by omega); have q11 : 0 < a0.size := (by have : (0 : Int) < (a0.size : Int) := of_decide_eq_true (by first | (with_reducible assumption) | assumption); omega); have hx11 : ∀ h : 0 < a0.size, ((a0[0]'h).toNat : Int) = bt a0 0 := bt_at a0 0; clear p11; have qi11 : (0 < (a0.size : Int)) = True := eq_true (of_decide_eq_true (by first | (with_reducible assumption) | assumption)); replace q11 := eq_true q11) | (go_at_call 82; (with_reducible refine (constableref01_Lower.calls (bt a0 0) t717 _ A12.out).mono ?_); rintro e w' ⟨rfl, ⟨nd, rfl⟩⟩))
      go_meet
      case rel => exact ⟨_, (!t717), (by first | rfl | (simp; done) | (simp [*]; done)), H', ⟨by first | omega | exact Nat.le_refl _⟩, by repeat (first | exact Drawn0.refl _ | apply Drawn0.step)⟩
   ·rw [if_neg c6] at H
    exact absurd H (by simp)
  ·replace c5 := Bool.eq_false_iff.mpr c5
   subst c5
   have H1 : (constableref01_Word.j0 k a0 true) = some r := by rw [if_neg (show ¬ (false = true) by decide)] at H; exact H
   clear H
   have H := H1
   clear H1
   have H' := Aside0.mk H
   clear H
   go_wp2_with (first | ((with_reducible refine gate_callee (f := 80) rfl ?_); refine goesL_ (some 8) rfl rfl Tryz.func80 (by kernel_rfl) rfl #[.int .i64 (a0.size : Int), .int .i64 1, .int .i64 24] rfl aG ?_; (with_reducible refine (constableref01_In.calls (a0.size : Int) 1 24 false _ A4.out).mono ?_); rintro e w' ⟨rfl, ⟨nd, rfl⟩⟩; refine ⟨_, rfl, ?_⟩))
   go_meet
   case rel => exact ⟨_, (true), (by first | rfl | (simp; done) | (simp [*]; done)), H', ⟨by first | omega | exact Nat.le_refl _⟩, by repeat (first | exact Drawn0.refl _ | apply Drawn0.step)⟩
 case rest =>
  clear HC3
  (try clear c1); (try clear p1); (try clear q1); (try clear hx1); (try clear qi1); (try clear p2); (try clear c5); (try clear c6); (try clear c6b0); (try clear c6b1); (try clear p7); (try clear q7); (try clear hx7); (try clear qi7); (try clear c8); (try clear c9); (try clear c9b0); (try clear c9b1); (try clear c9b2); (try clear c10); (try clear p11); (try clear q11); (try clear hx11); (try clear qi11); (try clear p11); (try clear p7); (try clear q11); (try clear q7)
  obtain ⟨kq, x26_2, rfl, HA, HJ2, ⟨mc2, rfl⟩⟩ := hcut
  cases kq with
  | zero => exact absurd HA.out (by simp [constableref01_Word.j0])
  | succ kj2 =>
   have H := HA.out
   clear HA
   simp only [constableref01_Word.j0] at H
   by_cases c13 : x26_2 = true
   ·subst c13
    have H1 : (some false) = some r := by rw [if_pos rfl] at H; exact H
    clear H
    have H := H1
    clear H1
    obtain rfl := Option.some.inj H
    go_wp2
    go_ret
    exact ⟨by first | rfl | (simp; done) | (simp [*]; done), by repeat (first | exact Drawn0.refl _ | apply Drawn0.step)⟩
   ·replace c13 := Bool.eq_false_iff.mpr c13
    subst c13
    have H1 : (constableref01_Word.l0 kj2 a0 0) = some r := by rw [if_neg (show ¬ (false = true) by decide)] at H; exact H
    clear H
    have H := H1
    clear H1
    have H' := Aside0.mk H
    clear H
    go_wp2
    go_loopg [5] kj2 (fun kq v5 w' => ∃ (x5_2 : Int), v5 = .int .i64 x5_2 ∧ Aside0 (constableref01_Word.l0 kq a0 x5_2 = some r) ∧ Aside0 (kq ≤ kj2) ∧ Drawn0 w w')
    case atStart => exact ⟨(0), (by first | rfl | (simp; done) | (simp [*]; done)), H', ⟨Nat.le_refl _⟩, by repeat (first | exact Drawn0.refl _ | apply Drawn0.step)⟩
    case round =>
     clear H'
     (try clear c1); (try clear p1); (try clear q1); (try clear hx1); (try clear qi1); (try clear c2); (try clear p2); (try clear c5); (try clear c6); (try clear c6b0); (try clear c6b1); (try clear p7); (try clear q7); (try clear hx7); (try clear qi7); (try clear c8); (try clear c9); (try clear c9b0); (try clear c9b1); (try clear c9b2); (try clear c10); (try clear p11); (try clear q11); (try clear hx11); (try clear qi11); (try clear c13); (try clear p1); (try clear p11); (try clear p2); (try clear p7); (try clear q1); (try clear q11); (try clear q7)
     obtain ⟨x5_2, rfl, HA, HK2, ⟨m2, rfl⟩⟩ := hrel
     cases gk with
     | zero => exact absurd HA.out (by simp [constableref01_Word.l0])
     | succ k2 =>
      have H := HA.out
      clear HA
      simp only [constableref01_Word.l0] at H
      by_cases c14 : x5_2 < (a0.size : Int)
      ·rw [if_pos c14] at H
       have c14b0 : decide (x5_2 < (a0.size : Int)) = true := decide_eq_true c14
       clear c14
       by_cases c15 : 0 ≤ x5_2
       ·rw [if_pos c15] at H
        have c15b0 : decide (0 ≤ x5_2) = true := decide_eq_true c15
        clear c15
        replace H := Option.bind_eq_some_iff.mp H
        obtain ⟨t718, A170, H⟩ := H
        replace H : (if t718 = true then (constableref01_Word.l0 k2 a0 (wrap64 (x5_2 + 1))) else (some false)) = some r := H
        have A17 := Aside0.mk A170
        clear A170
        by_cases c18 : t718 = true
        ·subst c18
         have H1 : (constableref01_Word.l0 k2 a0 (wrap64 (x5_2 + 1))) = some r := by rw [if_pos rfl] at H; exact H
         clear H
         have H := H1
         clear H1
         have H' := Aside0.mk H
         clear H
         have p16 : 0 ≤ (x5_2 : Int) := of_decide_eq_true (by first | (with_reducible assumption) | assumption)
         have q16 : x5_2 < (a0.size : Int) := of_decide_eq_true (by first | (with_reducible assumption) | assumption)
         have hx16 := bt_at a0 x5_2
         replace p16 := eq_true p16
         replace q16 := eq_true q16
         go_wp2_with (first | ((with_reducible refine gate_callee (f := 83) rfl ?_); refine goesL_ (some 36) rfl rfl Tryz.func83 (by kernel_rfl) rfl #[.int .u8 (bt a0 x5_2)] rfl aG ?_; (with_reducible refine (constableref01_inner.calls (bt a0 x5_2) true _ A17.out).mono ?_); rintro e w' ⟨rfl, ⟨nd, rfl⟩⟩; refine ⟨_, rfl, ?_⟩))
         go_roundg k2
         case measure => have := HJ2.out; have := HK2.out; omega
         case rel => exact ⟨(wrap64 (x5_2 + 1)), (by first | rfl | (simp; done) | (simp [*]; done)), H', ⟨by have := HJ2.out; have := HK2.out; omega⟩, by repeat (first | exact Drawn0.refl _ | apply Drawn0.step)⟩
        ·replace c18 := Bool.eq_false_iff.mpr c18
         subst c18
         have H1 : (some false) = some r := by rw [if_neg (show ¬ (false = true) by decide)] at H; exact H
         clear H
         have H := H1
         clear H1
         obtain rfl := Option.some.inj H
         have p16 : 0 ≤ (x5_2 : Int) := of_decide_eq_true (by first | (with_reducible assumption) | assumption)
         have q16 : x5_2 < (a0.size : Int) := of_decide_eq_true (by first | (with_reducible assumption) | assumption)
         have hx16 := bt_at a0 x5_2
         replace p16 := eq_true p16
         replace q16 := eq_true q16
         go_wp2_with (first | ((with_reducible refine gate_callee (f := 83) rfl ?_); refine goesL_ (some 36) rfl rfl Tryz.func83 (by kernel_rfl) rfl #[.int .u8 (bt a0 x5_2)] rfl aG ?_; (with_reducible refine (constableref01_inner.calls (bt a0 x5_2) false _ A17.out).mono ?_); rintro e w' ⟨rfl, ⟨nd, rfl⟩⟩; refine ⟨_, rfl, ?_⟩))
         go_ret
         exact ⟨by first | rfl | (simp; done) | (simp [*]; done), by repeat (first | exact Drawn0.refl _ | apply Drawn0.step)⟩
       ·rw [if_neg c15] at H
        exact absurd H (by simp)
      ·rw [if_neg c14] at H
       have c14b0 : decide (x5_2 < (a0.size : Int)) = false := decide_eq_false c14
       clear c14
       obtain rfl := Option.some.inj H
       go_wp2
       go_ret
       exact ⟨by first | rfl | (simp; done) | (simp [*]; done), by repeat (first | exact Drawn0.refl _ | apply Drawn0.step)⟩

end Go.Proofs.YtghommaokdhjmaaGreat.P
namespace Go.Proofs.YtghommaokdhjmaaGreat.P
open Go.RowKit Go.Proofs.YtghommaokdhjmaaGreatW.PrintWords Go.Proofs.YtghommaokdhjmaaGreatW.PrintLast Gate

mutual
def constableref01_Value.j0 : Nat → Bool → Int → Int → ByteArray → Option (Bool)
 | 0, _, _, _, _ => none
 | k + 1, x37, x720000, x720001, x720002 => if x37 = true then (some false) else (constableref01_Value.l0 k 0 x720000 x720001 x720002)
def constableref01_Value.l0 : Nat → Int → Int → Int → ByteArray → Option (Bool)
 | 0, _, _, _, _ => none
 | k + 1, x3, x720000, x720001, x720002 => if x3 < (x720002.size : Int) then (if 0 ≤ x3 then ((constableref01_In.f (wrap64 (bt x720002 x3)) 32 126).bind fun t722 => (if t722 = true then (constableref01_Value.l0 k (wrap64 (x3 + 1)) x720000 x720001 x720002) else (some false))) else (none)) else (some true)
end
def constableref01_Value.f (k : Nat) (a0_0 : Int) (a0_1 : Int) (a0_2 : ByteArray) : Option (Bool) := if a0_0 = 1 then ((constableref01_In.f a0_1 (-4611686018427387904) 4611686018427387904).bind fun t720 => (if t720 = true then (some ((a0_2.size : Int) == 0)) else (some false))) else (if a0_0 = 2 then (if a0_1 = 0 then ((constableref01_Word.f k a0_2 false).bind fun t721 => (some t721)) else (some false)) else (if a0_0 = 3 then (if a0_1 = 0 then (constableref01_Value.j0 k (decide ((a0_2.size : Int) > 60)) a0_0 a0_1 a0_2) else (constableref01_Value.j0 k true a0_0 a0_1 a0_2)) else (some false)))
set_option maxHeartbeats 8000000 in
set_option maxRecDepth 100000 in
theorem constableref01_Value.calls (k : Nat) (a0_0 : Int) (a0_1 : Int) (a0_2 : ByteArray) (r : Bool) (w : World) (h : constableref01_Value.f k a0_0 a0_1 a0_2 = some r) :
  Calls Tryz.prog 52 #[.agg #[.int .i64 a0_0, .int .i64 a0_1, .string a0_2]] w fun e w' => e = .returned (.bool r) ∧ Below w.heap.size w w' := by
 have hu64 := Tryz.underlying64
 have HB := Aside0.mk (Below.refl w.heap.size w)
 have H : (if a0_0 = 1 then ((constableref01_In.f a0_1 (-4611686018427387904) 4611686018427387904).bind fun t720 => (if t720 = true then (some ((a0_2.size : Int) == 0)) else (some false))) else (if a0_0 = 2 then (if a0_1 = 0 then ((constableref01_Word.f k a0_2 false).bind fun t721 => (some t721)) else (some false)) else (if a0_0 = 3 then (if a0_1 = 0 then (constableref01_Value.j0 k (decide ((a0_2.size : Int) > 60)) a0_0 a0_1 a0_2) else (constableref01_Value.j0 k true a0_0 a0_1 a0_2)) else (some false)))) = some r := h
 clear h
 by_cases c2 : a0_0 = 1
 ·rw [if_pos c2] at H
  have c2b0 : (a0_0 == 1) = true := beq_iff_eq.mpr c2
  have c2b1 : (a0_0 != 1) = false := bne_eq_false_iff_eq.mpr c2
  clear c2
  replace H := Option.bind_eq_some_iff.mp H
  obtain ⟨t720, A30, H⟩ := H
  replace H : (if t720 = true then (some ((a0_2.size : Int) == 0)) else (some false)) = some r := H
  have A3 := Aside0.mk A30
  clear A30
  by_cases c4 : t720 = true
  ·subst c4
   have H1 : (some ((a0_2.size : Int) == 0)) = some r := by rw [if_pos rfl] at H; exact H
   clear H
   have H := H1
   clear H1
   obtain rfl := Option.some.inj H
   go_enter Tryz.func52, Tryz.ntmps52
   go_wp2_with (first | ((with_reducible refine gate_dst (N := 1) rfl ?_); (try (refine gate_guard (by rfl) ?_; dsimp only)); refine bE (N := 1) (cs := #[.int .i64 a0_0, .int .i64 a0_1, .string a0_2]) (t := 64) ?_; intro gb719 hg w5 hbox hb; have n0_ := Aside0.mk (below_step bB0 hb); have n1_ := Aside0.mk (hbox); have n2_ := Aside0.mk ((by rw [hg]; exact (below_size bB0) : w.heap.size ≤ gb719)); have n3_ := Aside0.mk ((by rw [hg]; exact (below_size bB0) : w.heap.size ≤ gb719)); clear HB; have HB := n0_; have BK719 := n1_; have GW719 := n2_; have GE719 := n3_; clear n0_ n1_ n2_ n3_; clear hb hbox hg; have hcz6_0 : w5.cell? ⟨gb719, 0, none⟩ = some (.int .i64 a0_0) := (blk_cell BK719.out 0).trans rfl; have hcz6_1 : w5.cell? ⟨gb719, 1, none⟩ = some (.int .i64 a0_1) := (blk_cell BK719.out 1).trans rfl; have hcz6_2 : w5.cell? ⟨gb719, 2, none⟩ = some (.string a0_2) := (blk_cell BK719.out 2).trans rfl; have hfz6_0 := blk_frozen BK719.out 0; have hfz6_1 := blk_frozen BK719.out 1; have hfz6_2 := blk_frozen BK719.out 2) | ((with_reducible refine gate_callee (f := 80) rfl ?_); refine goesL_ (some 10) rfl rfl Tryz.func80 (by kernel_rfl) rfl #[.int .i64 a0_1, .int .i64 (-4611686018427387904), .int .i64 4611686018427387904] rfl aG ?_; (with_reducible refine (constableref01_In.calls a0_1 (-4611686018427387904) 4611686018427387904 true _ A3.out).mono ?_); rintro e w' ⟨rfl, ⟨nd, rfl⟩⟩; refine ⟨_, rfl, ?_⟩))
   go_ret
   exact ⟨eW, (bB1 GE719.out)⟩
  ·replace c4 := Bool.eq_false_iff.mpr c4
   subst c4
   have H1 : (some false) = some r := by rw [if_neg (show ¬ (false = true) by decide)] at H; exact H
   clear H
   have H := H1
   clear H1
   obtain rfl := Option.some.inj H
   go_enter Tryz.func52, Tryz.ntmps52
   go_wp2_with (first | ((with_reducible refine gate_dst (N := 1) rfl ?_); (try (refine gate_guard (by rfl) ?_; dsimp only)); refine bE (N := 1) (cs := #[.int .i64 a0_0, .int .i64 a0_1, .string a0_2]) (t := 64) ?_; intro gb719 hg w7 hbox hb; have n0_ := Aside0.mk (below_step bB0 hb); have n1_ := Aside0.mk (hbox); have n2_ := Aside0.mk ((by rw [hg]; exact (below_size bB0) : w.heap.size ≤ gb719)); have n3_ := Aside0.mk ((by rw [hg]; exact (below_size bB0) : w.heap.size ≤ gb719)); clear HB; have HB := n0_; have BK719 := n1_; have GW719 := n2_; have GE719 := n3_; clear n0_ n1_ n2_ n3_; clear hb hbox hg; have hcz8_0 : w7.cell? ⟨gb719, 0, none⟩ = some (.int .i64 a0_0) := (blk_cell BK719.out 0).trans rfl; have hcz8_1 : w7.cell? ⟨gb719, 1, none⟩ = some (.int .i64 a0_1) := (blk_cell BK719.out 1).trans rfl; have hcz8_2 : w7.cell? ⟨gb719, 2, none⟩ = some (.string a0_2) := (blk_cell BK719.out 2).trans rfl; have hfz8_0 := blk_frozen BK719.out 0; have hfz8_1 := blk_frozen BK719.out 1; have hfz8_2 := blk_frozen BK719.out 2) | ((with_reducible refine gate_callee (f := 80) rfl ?_); refine goesL_ (some 10) rfl rfl Tryz.func80 (by kernel_rfl) rfl #[.int .i64 a0_1, .int .i64 (-4611686018427387904), .int .i64 4611686018427387904] rfl aG ?_; (with_reducible refine (constableref01_In.calls a0_1 (-4611686018427387904) 4611686018427387904 false _ A3.out).mono ?_); rintro e w' ⟨rfl, ⟨nd, rfl⟩⟩; refine ⟨_, rfl, ?_⟩))
   go_ret
   exact ⟨eW, (bB1 GE719.out)⟩
 ·rw [if_neg c2] at H
  have c2b0 : (a0_0 == 1) = false := beq_eq_false_iff_ne.mpr c2
  have c2b1 : (a0_0 != 1) = true := bne_iff_ne.mpr c2
  by_cases c9 : a0_0 = 2
  ·rw [if_pos c9] at H
   have c9b0 : (a0_0 == 2) = true := beq_iff_eq.mpr c9
   have c9b1 : (a0_0 != 2) = false := bne_eq_false_iff_eq.mpr c9
   clear c9
   by_cases c10 : a0_1 = 0
   ·rw [if_pos c10] at H
    have c10b0 : (a0_1 == 0) = true := beq_iff_eq.mpr c10
    have c10b1 : (a0_1 != 0) = false := bne_eq_false_iff_eq.mpr c10
    clear c10
    replace H := Option.bind_eq_some_iff.mp H
    obtain ⟨t721, A110, H⟩ := H
    replace H : (some t721) = some r := H
    have A11 := Aside0.mk A110
    clear A110
    obtain rfl := Option.some.inj H
    go_enter Tryz.func52, Tryz.ntmps52
    go_wp2_with (first | ((with_reducible refine gate_dst (N := 1) rfl ?_); (try (refine gate_guard (by rfl) ?_; dsimp only)); refine bE (N := 1) (cs := #[.int .i64 a0_0, .int .i64 a0_1, .string a0_2]) (t := 64) ?_; intro gb719 hg w12 hbox hb; have n0_ := Aside0.mk (below_step bB0 hb); have n1_ := Aside0.mk (hbox); have n2_ := Aside0.mk ((by rw [hg]; exact (below_size bB0) : w.heap.size ≤ gb719)); have n3_ := Aside0.mk ((by rw [hg]; exact (below_size bB0) : w.heap.size ≤ gb719)); clear HB; have HB := n0_; have BK719 := n1_; have GW719 := n2_; have GE719 := n3_; clear n0_ n1_ n2_ n3_; clear hb hbox hg; have hcz13_0 : w12.cell? ⟨gb719, 0, none⟩ = some (.int .i64 a0_0) := (blk_cell BK719.out 0).trans rfl; have hcz13_1 : w12.cell? ⟨gb719, 1, none⟩ = some (.int .i64 a0_1) := (blk_cell BK719.out 1).trans rfl; have hcz13_2 : w12.cell? ⟨gb719, 2, none⟩ = some (.string a0_2) := (blk_cell BK719.out 2).trans rfl; have hfz13_0 := blk_frozen BK719.out 0; have hfz13_1 := blk_frozen BK719.out 1; have hfz13_2 := blk_frozen BK719.out 2) | (go_at_call 51; (with_reducible refine (constableref01_Word.calls k a0_2 false t721 _ A11.out).mono ?_); rintro e w' ⟨rfl, ⟨nd, rfl⟩⟩))
    go_ret
    exact ⟨eW, (bB1 GE719.out)⟩
   ·rw [if_neg c10] at H
    have c10b0 : (a0_1 == 0) = false := beq_eq_false_iff_ne.mpr c10
    have c10b1 : (a0_1 != 0) = true := bne_iff_ne.mpr c10
    obtain rfl := Option.some.inj H
    go_enter Tryz.func52, Tryz.ntmps52
    go_wp2_with (first | ((with_reducible refine gate_dst (N := 1) rfl ?_); (try (refine gate_guard (by rfl) ?_; dsimp only)); refine bE (N := 1) (cs := #[.int .i64 a0_0, .int .i64 a0_1, .string a0_2]) (t := 64) ?_; intro gb719 hg w14 hbox hb; have n0_ := Aside0.mk (below_step bB0 hb); have n1_ := Aside0.mk (hbox); have n2_ := Aside0.mk ((by rw [hg]; exact (below_size bB0) : w.heap.size ≤ gb719)); have n3_ := Aside0.mk ((by rw [hg]; exact (below_size bB0) : w.heap.size ≤ gb719)); clear HB; have HB := n0_; have BK719 := n1_; have GW719 := n2_; have GE719 := n3_; clear n0_ n1_ n2_ n3_; clear hb hbox hg; have hcz15_0 : w14.cell? ⟨gb719, 0, none⟩ = some (.int .i64 a0_0) := (blk_cell BK719.out 0).trans rfl; have hcz15_1 : w14.cell? ⟨gb719, 1, none⟩ = some (.int .i64 a0_1) := (blk_cell BK719.out 1).trans rfl; have hcz15_2 : w14.cell? ⟨gb719, 2, none⟩ = some (.string a0_2) := (blk_cell BK719.out 2).trans rfl; have hfz15_0 := blk_frozen BK719.out 0; have hfz15_1 := blk_frozen BK719.out 1; have hfz15_2 := blk_frozen BK719.out 2))
    go_ret
    exact ⟨eW, (bB1 GE719.out)⟩
  ·rw [if_neg c9] at H
   have c9b0 : (a0_0 == 2) = false := beq_eq_false_iff_ne.mpr c9
   have c9b1 : (a0_0 != 2) = true := bne_iff_ne.mpr c9
   by_cases c16 : a0_0 = 3
   ·rw [if_pos c16] at H
    have c16b0 : (a0_0 == 3) = true := beq_iff_eq.mpr c16
    have c16b1 : (a0_0 != 3) = false := bne_eq_false_iff_eq.mpr c16
    clear c16
    have HC17 := Aside0.mk H
    clear H
    go_enter Tryz.func52, Tryz.ntmps52
    go_upto_region 7 with (first | ((with_reducible refine gate_dst (N := 1) rfl ?_); (try (refine gate_guard (by rfl) ?_; dsimp only)); refine bE (N := 1) (cs := #[.int .i64 a0_0, .int .i64 a0_1, .string a0_2]) (t := 64) ?_; intro gb719 hg w18 hbox hb; have n0_ := Aside0.mk (below_step bB0 hb); have n1_ := Aside0.mk (hbox); have n2_ := Aside0.mk ((by rw [hg]; exact (below_size bB0) : w.heap.size ≤ gb719)); have n3_ := Aside0.mk ((by rw [hg]; exact (below_size bB0) : w.heap.size ≤ gb719)); clear HB; have HB := n0_; have BK719 := n1_; have GW719 := n2_; have GE719 := n3_; clear n0_ n1_ n2_ n3_; clear hb hbox hg; have hcz19_0 : w18.cell? ⟨gb719, 0, none⟩ = some (.int .i64 a0_0) := (blk_cell BK719.out 0).trans rfl; have hcz19_1 : w18.cell? ⟨gb719, 1, none⟩ = some (.int .i64 a0_1) := (blk_cell BK719.out 1).trans rfl; have hcz19_2 : w18.cell? ⟨gb719, 2, none⟩ = some (.string a0_2) := (blk_cell BK719.out 2).trans rfl; have hfz19_0 := blk_frozen BK719.out 0; have hfz19_1 := blk_frozen BK719.out 1; have hfz19_2 := blk_frozen BK719.out 2))
    (try simp only [Act.put, List.setIfInBounds_toArray, List.set_cons_zero, List.set_cons_succ])
    go_cut [37] (fun v37 wc => ∃ (kq : Nat) (x37_16 : Bool), v37 = .bool x37_16 ∧ Aside0 (constableref01_Value.j0 kq x37_16 a0_0 a0_1 a0_2 = some r) ∧ Aside0 (kq ≤ k) ∧ Aside0 (wc.heap[gb719]? = some (.cells #[.int .i64 a0_0, .int .i64 a0_1, .string a0_2] 64 (0, 0))) ∧ Aside0 (Below w.heap.size w wc))
    case first =>
     have H := HC17.out
     clear HC17
     by_cases c20 : a0_1 = 0
     ·rw [if_pos c20] at H
      have c20b0 : (a0_1 == 0) = true := beq_iff_eq.mpr c20
      have c20b1 : (a0_1 != 0) = false := bne_eq_false_iff_eq.mpr c20
      clear c20
      (first | rw [c20b0] | (simp only [i64_w, i32_w]; rw [c20b0]) | skip)
      have H' := Aside0.mk H
      clear H
      have hcz21_0 : w18.cell? ⟨gb719, 0, none⟩ = some (.int .i64 a0_0) := (blk_cell BK719.out 0).trans rfl
      have hcz21_1 : w18.cell? ⟨gb719, 1, none⟩ = some (.int .i64 a0_1) := (blk_cell BK719.out 1).trans rfl
      have hcz21_2 : w18.cell? ⟨gb719, 2, none⟩ = some (.string a0_2) := (blk_cell BK719.out 2).trans rfl
      have hfz21_0 := blk_frozen BK719.out 0
      have hfz21_1 := blk_frozen BK719.out 1
      have hfz21_2 := blk_frozen BK719.out 2
      go_wp2
      go_meet
      case rel => exact ⟨_, (decide ((a0_2.size : Int) > 60)), (by first | rfl | (simp; done) | (simp [*]; done)), H', ⟨by first | omega | exact Nat.le_refl _⟩, ⟨by refine bk ?_; exact BK719.out⟩, ⟨(bB1 GE719.out)⟩⟩
     ·rw [if_neg c20] at H
      have c20b0 : (a0_1 == 0) = false := beq_eq_false_iff_ne.mpr c20
      have c20b1 : (a0_1 != 0) = true := bne_iff_ne.mpr c20
      (first | rw [c20b0] | (simp only [i64_w, i32_w]; rw [c20b0]) | skip)
      have H' := Aside0.mk H
      clear H
      have hcz22_0 : w18.cell? ⟨gb719, 0, none⟩ = some (.int .i64 a0_0) := (blk_cell BK719.out 0).trans rfl
      have hcz22_1 : w18.cell? ⟨gb719, 1, none⟩ = some (.int .i64 a0_1) := (blk_cell BK719.out 1).trans rfl
      have hcz22_2 : w18.cell? ⟨gb719, 2, none⟩ = some (.string a0_2) := (blk_cell BK719.out 2).trans rfl
      have hfz22_0 := blk_frozen BK719.out 0
      have hfz22_1 := blk_frozen BK719.out 1
      have hfz22_2 := blk_frozen BK719.out 2
      go_wp2
      go_meet
      case rel => exact ⟨_, (true), (by first | rfl | (simp; done) | (simp [*]; done)), H', ⟨by first | omega | exact Nat.le_refl _⟩, ⟨by refine bk ?_; exact BK719.out⟩, ⟨(bB1 GE719.out)⟩⟩
    case rest =>
     clear HC17
     (try clear c1); (try clear c2); (try clear c2b0); (try clear c2b1); (try clear p2); (try clear c4); (try clear c5); (try clear c8); (try clear c9); (try clear c9b0); (try clear c9b1); (try clear c10); (try clear c10b0); (try clear c10b1); (try clear c16); (try clear c16b0); (try clear c16b1); (try clear c20); (try clear c20b0); (try clear c20b1); (try clear hcz13_0); (try clear hcz13_1); (try clear hcz13_2); (try clear hcz15_0); (try clear hcz15_1); (try clear hcz15_2); (try clear hcz19_0); (try clear hcz19_1); (try clear hcz19_2); (try clear hcz21_0); (try clear hcz21_1); (try clear hcz21_2); (try clear hcz22_0); (try clear hcz22_1); (try clear hcz22_2); (try clear hcz6_0); (try clear hcz6_1); (try clear hcz6_2); (try clear hcz8_0); (try clear hcz8_1); (try clear hcz8_2); (try clear hfz13_0); (try clear hfz13_1); (try clear hfz13_2); (try clear hfz15_0); (try clear hfz15_1); (try clear hfz15_2); (try clear hfz19_0); (try clear hfz19_1); (try clear hfz19_2); (try clear hfz21_0); (try clear hfz21_1); (try clear hfz21_2); (try clear hfz22_0); (try clear hfz22_1); (try clear hfz22_2); (try clear hfz6_0); (try clear hfz6_1); (try clear hfz6_2); (try clear hfz8_0); (try clear hfz8_1); (try clear hfz8_2)
     obtain ⟨kq, x37_16, rfl, HA, HJ16, BK719, HB⟩ := hcut
     cases kq with
     | zero => exact absurd HA.out (by simp [constableref01_Value.j0])
     | succ kj16 =>
      have H := HA.out
      clear HA
      simp only [constableref01_Value.j0] at H
      by_cases c23 : x37_16 = true
      ·subst c23
       have H1 : (some false) = some r := by rw [if_pos rfl] at H; exact H
       clear H
       have H := H1
       clear H1
       obtain rfl := Option.some.inj H
       go_wp2
       go_ret
       exact ⟨eW, (bB1 GE719.out)⟩
      ·replace c23 := Bool.eq_false_iff.mpr c23
       subst c23
       have H1 : (constableref01_Value.l0 kj16 0 a0_0 a0_1 a0_2) = some r := by rw [if_neg (show ¬ (false = true) by decide)] at H; exact H
       clear H
       have H := H1
       clear H1
       have H' := Aside0.mk H
       clear H
       go_wp2
       go_loopg [3] kj16 (fun kq v3 w' => ∃ (x3_2 : Int), v3 = .int .i64 x3_2 ∧ Aside0 (constableref01_Value.l0 kq x3_2 a0_0 a0_1 a0_2 = some r) ∧ Aside0 (kq ≤ kj16) ∧ Aside0 (w'.heap[gb719]? = some (.cells #[.int .i64 a0_0, .int .i64 a0_1, .string a0_2] 64 (0, 0))) ∧ Aside0 (Below w.heap.size w w'))
       case atStart => exact ⟨(0), (by first | rfl | (simp; done) | (simp [*]; done)), H', ⟨Nat.le_refl _⟩, ⟨by refine bk ?_; exact BK719.out⟩, ⟨(bB1 GE719.out)⟩⟩
       case round =>
        clear H'
        (try clear c1); (try clear c2); (try clear c2b0); (try clear c2b1); (try clear p2); (try clear c4); (try clear c5); (try clear c8); (try clear c9); (try clear c9b0); (try clear c9b1); (try clear c10); (try clear c10b0); (try clear c10b1); (try clear c16); (try clear c16b0); (try clear c16b1); (try clear c20); (try clear c20b0); (try clear c20b1); (try clear c23); (try clear hcz13_0); (try clear hcz13_1); (try clear hcz13_2); (try clear hcz15_0); (try clear hcz15_1); (try clear hcz15_2); (try clear hcz19_0); (try clear hcz19_1); (try clear hcz19_2); (try clear hcz21_0); (try clear hcz21_1); (try clear hcz21_2); (try clear hcz22_0); (try clear hcz22_1); (try clear hcz22_2); (try clear hcz6_0); (try clear hcz6_1); (try clear hcz6_2); (try clear hcz8_0); (try clear hcz8_1); (try clear hcz8_2); (try clear hfz13_0); (try clear hfz13_1); (try clear hfz13_2); (try clear hfz15_0); (try clear hfz15_1); (try clear hfz15_2); (try clear hfz19_0); (try clear hfz19_1); (try clear hfz19_2); (try clear hfz21_0); (try clear hfz21_1); (try clear hfz21_2); (try clear hfz22_0); (try clear hfz22_1); (try clear hfz22_2); (try clear hfz6_0); (try clear hfz6_1); (try clear hfz6_2); (try clear hfz8_0); (try clear hfz8_1); (try clear hfz8_2); (try clear p2)
        obtain ⟨x3_2, rfl, HA, HK2, BK719, HB⟩ := hrel
        cases gk with
        | zero => exact absurd HA.out (by simp [constableref01_Value.l0])
        | succ k2 =>
         have H := HA.out
         clear HA
         simp only [constableref01_Value.l0] at H
         by_cases c24 : x3_2 < (a0_2.size : Int)
         ·rw [if_pos c24] at H
          have c24b0 : decide (x3_2 < (a0_2.size : Int)) = true := decide_eq_true c24
          clear c24
          by_cases c25 : 0 ≤ x3_2
          ·rw [if_pos c25] at H
           have c25b0 : decide (0 ≤ x3_2) = true := decide_eq_true c25
           clear c25
           replace H := Option.bind_eq_some_iff.mp H
           obtain ⟨t722, A270, H⟩ := H
           replace H : (if t722 = true then (constableref01_Value.l0 k2 (wrap64 (x3_2 + 1)) a0_0 a0_1 a0_2) else (some false)) = some r := H
           have A27 := Aside0.mk A270
           clear A270
           by_cases c28 : t722 = true
           ·subst c28
            have H1 : (constableref01_Value.l0 k2 (wrap64 (x3_2 + 1)) a0_0 a0_1 a0_2) = some r := by rw [if_pos rfl] at H; exact H
            clear H
            have H := H1
            clear H1
            have H' := Aside0.mk H
            clear H
            have hcz29_0 : wr.cell? ⟨gb719, 0, none⟩ = some (.int .i64 a0_0) := (blk_cell BK719.out 0).trans rfl
            have hcz29_1 : wr.cell? ⟨gb719, 1, none⟩ = some (.int .i64 a0_1) := (blk_cell BK719.out 1).trans rfl
            have hcz29_2 : wr.cell? ⟨gb719, 2, none⟩ = some (.string a0_2) := (blk_cell BK719.out 2).trans rfl
            have hfz29_0 := blk_frozen BK719.out 0
            have hfz29_1 := blk_frozen BK719.out 1
            have hfz29_2 := blk_frozen BK719.out 2
            have p26 : 0 ≤ (x3_2 : Int) := of_decide_eq_true (by first | (with_reducible assumption) | assumption)
            have q26 : x3_2 < (a0_2.size : Int) := of_decide_eq_true (by first | (with_reducible assumption) | assumption)
            have hx26 := bt_at a0_2 x3_2
            replace p26 := eq_true p26
            replace q26 := eq_true q26
            go_wp2_with (first | ((with_reducible refine gate_callee (f := 80) rfl ?_); refine goesL_ (some 50) rfl rfl Tryz.func80 (by kernel_rfl) rfl #[.int .i64 (wrap64 (bt a0_2 x3_2)), .int .i64 32, .int .i64 126] rfl aG ?_; (with_reducible refine (constableref01_In.calls (wrap64 (bt a0_2 x3_2)) 32 126 true _ A27.out).mono ?_); rintro e w' ⟨rfl, ⟨nd, rfl⟩⟩; refine ⟨_, rfl, ?_⟩))
            go_roundg k2
            case measure => have := HJ16.out; have := HK2.out; omega
            case rel => exact ⟨(wrap64 (x3_2 + 1)), (by first | rfl | (simp; done) | (simp [*]; done)), H', ⟨by have := HJ16.out; have := HK2.out; omega⟩, ⟨by refine bk ?_; exact BK719.out⟩, ⟨(bB1 GE719.out)⟩⟩
           ·replace c28 := Bool.eq_false_iff.mpr c28
            subst c28
            have H1 : (some false) = some r := by rw [if_neg (show ¬ (false = true) by decide)] at H; exact H
            clear H
            have H := H1
            clear H1
            obtain rfl := Option.some.inj H
            have hcz30_0 : wr.cell? ⟨gb719, 0, none⟩ = some (.int .i64 a0_0) := (blk_cell BK719.out 0).trans rfl
            have hcz30_1 : wr.cell? ⟨gb719, 1, none⟩ = some (.int .i64 a0_1) := (blk_cell BK719.out 1).trans rfl
            have hcz30_2 : wr.cell? ⟨gb719, 2, none⟩ = some (.string a0_2) := (blk_cell BK719.out 2).trans rfl
            have hfz30_0 := blk_frozen BK719.out 0
            have hfz30_1 := blk_frozen BK719.out 1
            have hfz30_2 := blk_frozen BK719.out 2
            have p26 : 0 ≤ (x3_2 : Int) := of_decide_eq_true (by first | (with_reducible assumption) | assumption)
            have q26 : x3_2 < (a0_2.size : Int) := of_decide_eq_true (by first | (with_reducible assumption) | assumption)
            have hx26 := bt_at a0_2 x3_2
            replace p26 := eq_true p26
            replace q26 := eq_true q26
            go_wp2_with (first | ((with_reducible refine gate_callee (f := 80) rfl ?_); refine goesL_ (some 50) rfl rfl Tryz.func80 (by kernel_rfl) rfl #[.int .i64 (wrap64 (bt a0_2 x3_2)), .int .i64 32, .int .i64 126] rfl aG ?_; (with_reducible refine (constableref01_In.calls (wrap64 (bt a0_2 x3_2)) 32 126 false _ A27.out).mono ?_); rintro e w' ⟨rfl, ⟨nd, rfl⟩⟩; refine ⟨_, rfl, ?_⟩))
            go_ret
            exact ⟨eW, (bB1 GE719.out)⟩
          ·rw [if_neg c25] at H
           exact absurd H (by simp)
         ·rw [if_neg c24] at H
          have c24b0 : decide (x3_2 < (a0_2.size : Int)) = false := decide_eq_false c24
          clear c24
          obtain rfl := Option.some.inj H
          have hcz31_0 : wr.cell? ⟨gb719, 0, none⟩ = some (.int .i64 a0_0) := (blk_cell BK719.out 0).trans rfl
          have hcz31_1 : wr.cell? ⟨gb719, 1, none⟩ = some (.int .i64 a0_1) := (blk_cell BK719.out 1).trans rfl
          have hcz31_2 : wr.cell? ⟨gb719, 2, none⟩ = some (.string a0_2) := (blk_cell BK719.out 2).trans rfl
          have hfz31_0 := blk_frozen BK719.out 0
          have hfz31_1 := blk_frozen BK719.out 1
          have hfz31_2 := blk_frozen BK719.out 2
          go_wp2
          go_ret
          exact ⟨eW, (bB1 GE719.out)⟩
   ·rw [if_neg c16] at H
    have c16b0 : (a0_0 == 3) = false := beq_eq_false_iff_ne.mpr c16
    have c16b1 : (a0_0 != 3) = true := bne_iff_ne.mpr c16
    obtain rfl := Option.some.inj H
    go_enter Tryz.func52, Tryz.ntmps52
    go_wp2_with (first | ((with_reducible refine gate_dst (N := 1) rfl ?_); (try (refine gate_guard (by rfl) ?_; dsimp only)); refine bE (N := 1) (cs := #[.int .i64 a0_0, .int .i64 a0_1, .string a0_2]) (t := 64) ?_; intro gb719 hg w32 hbox hb; have n0_ := Aside0.mk (below_step bB0 hb); have n1_ := Aside0.mk (hbox); have n2_ := Aside0.mk ((by rw [hg]; exact (below_size bB0) : w.heap.size ≤ gb719)); have n3_ := Aside0.mk ((by rw [hg]; exact (below_size bB0) : w.heap.size ≤ gb719)); clear HB; have HB := n0_; have BK719 := n1_; have GW719 := n2_; have GE719 := n3_; clear n0_ n1_ n2_ n3_; clear hb hbox hg; have hcz33_0 : w32.cell? ⟨gb719, 0, none⟩ = some (.int .i64 a0_0) := (blk_cell BK719.out 0).trans rfl; have hcz33_1 : w32.cell? ⟨gb719, 1, none⟩ = some (.int .i64 a0_1) := (blk_cell BK719.out 1).trans rfl; have hcz33_2 : w32.cell? ⟨gb719, 2, none⟩ = some (.string a0_2) := (blk_cell BK719.out 2).trans rfl; have hfz33_0 := blk_frozen BK719.out 0; have hfz33_1 := blk_frozen BK719.out 1; have hfz33_2 := blk_frozen BK719.out 2))
    go_ret
    exact ⟨eW, (bB1 GE719.out)⟩

end Go.Proofs.YtghommaokdhjmaaGreat.P
/- The references' words and values answer what the plain forms say; texts no longer than a million bytes. -/
namespace Go.Proofs.YtghommaokdhjmaaGreat.SpecB
open Go.RowKit Go.Proofs.YtghommaokdhjmaaGreatW.PrintWords Go.Proofs.YtghommaokdhjmaaGreatW.PrintLast Gate P PSpec
theorem ff {α : Type} {a b : α} : (if false = true then a else b) = b := rfl
theorem lower_eq (c : Int) : constableref01_Lower.f c = some (smallP c) := by
 unfold smallP val_small.f constableref01_Lower.f
 split <;> rfl
theorem upper_eq (c : Int) : constableref01_Upper.f c = some (largeP c) := by
 unfold largeP val_large.f constableref01_Upper.f
 split <;> rfl
theorem rdigit_eq (c : Int) : constableref01_Digit.f c = some (digitP c) := by
 unfold digitP val_digit.f constableref01_Digit.f
 split <;> rfl
theorem small_iff (c : Int) : smallP c = (decide (97 ≤ c) && decide (c ≤ 122)) := by
 unfold smallP val_small.f
 by_cases h : c ≥ 97
 ·rw [if_pos h, decide_eq_true (show 97 ≤ c from h)]; rfl
 ·rw [if_neg h, decide_eq_false (show ¬ 97 ≤ c from h)]; rfl
theorem large_iff (c : Int) : largeP c = (decide (65 ≤ c) && decide (c ≤ 90)) := by
 unfold largeP val_large.f
 by_cases h : c ≥ 65
 ·rw [if_pos h, decide_eq_true (show 65 ≤ c from h)]; rfl
 ·rw [if_neg h, decide_eq_false (show ¬ 65 ≤ c from h)]; rfl
theorem digit_iff (c : Int) : digitP c = (decide (48 ≤ c) && decide (c ≤ 57)) := by
 unfold digitP val_digit.f
 by_cases h : c ≥ 48
 ·rw [if_pos h, decide_eq_true (show 48 ≤ c from h)]; rfl
 ·rw [if_neg h, decide_eq_false (show ¬ 48 ≤ c from h)]; rfl
theorem let_iff (c : Int) : letP c = (smallP c || (largeP c || (digitP c || decide (c = 95)))) := by
 rw [small_iff, large_iff, digit_iff]
 unfold letP subst_letter.f
 by_cases h1 : 97 ≤ c <;> by_cases h2 : c ≤ 122 <;> by_cases h3 : 65 ≤ c <;> by_cases h4 : c ≤ 90 <;> by_cases h5 : 48 ≤ c <;> by_cases h6 : c ≤ 57 <;>
  simp [h1, h2, h3, h4, h5, h6, BEq.beq] <;> omega
theorem inner_eq (c : Int) : constableref01_inner.f c = some (letP c) := by
 unfold constableref01_inner.f
 rw [let_iff, lower_eq, upper_eq, rdigit_eq]
 simp only [Option.bind_some]
 cases smallP c <;> cases largeP c <;> cases digitP c <;> simp [BEq.beq]
theorem word_loop (s : ByteArray) (hs : s.size ≤ 1000000) : ∀ (m i : Nat), i + m = s.size → Ev (fun k => constableref01_Word.l0 k s i) (allFrom (fun i => letP (bt s i)) m i) := by
 intro m
 induction m with
 | zero =>
  intro i h
  refine Ev.step (fun k => by rw [constableref01_Word.l0, if_neg (by omega)]) ?_
  exact Ev.now _
 | succ m ih =>
  intro i h
  refine Ev.step (fun k => by rw [constableref01_Word.l0, if_pos (by omega), if_pos (by omega), inner_eq, Option.bind_some, w64 hs (show i < s.size by omega)]) ?_
  rw [allFrom]
  cases letP (bt s i)
  ·simp only [ff, Bool.false_and]; exact Ev.now _
  ·simp only [if_true, Bool.true_and]; exact ih (i + 1) (by omega)
def wordP (s : ByteArray) (large : Bool) : Bool := decide (1 ≤ s.size) && decide (s.size ≤ 24) && (if large then largeP (bt s 0) else smallP (bt s 0)) && varAll s
theorem in_eq (a b c : Int) : constableref01_In.f a b c = some (decide (b ≤ a) && decide (a ≤ c)) := by
 unfold constableref01_In.f
 by_cases h : a ≥ b
 ·rw [if_pos h, decide_eq_true (show b ≤ a from h)]; rfl
 ·rw [if_neg h, decide_eq_false (show ¬ b ≤ a from h)]; rfl
theorem small_large (c : Int) (h : smallP c = true) : largeP c = false := by
 rw [small_iff] at h
 rw [large_iff]
 simp only [Bool.and_eq_true, decide_eq_true_eq] at h
 rw [decide_eq_false (show ¬ c ≤ 90 by omega), Bool.and_false]
theorem ev_word (s : ByteArray) (hs : s.size ≤ 1000000) (large : Bool) : Ev (fun k => constableref01_Word.f k s large) (wordP s large) := by
 have jt : Ev (fun k => constableref01_Word.j0 k s true) false := Ev.step (fun k => by rw [constableref01_Word.j0, if_pos rfl]) (Ev.now _)
 have jf : Ev (fun k => constableref01_Word.j0 k s false) (varAll s) := Ev.step (fun k => by rw [constableref01_Word.j0, if_neg (by decide)]; rfl) (word_loop s hs s.size 0 (by omega))
 unfold constableref01_Word.f
 rw [in_eq]
 unfold wordP
 by_cases h : 1 ≤ s.size ∧ s.size ≤ 24
 ·rw [decide_eq_true (show (1 : Int) ≤ (s.size : Int) by omega), decide_eq_true (show (s.size : Int) ≤ 24 by omega), decide_eq_true h.1, decide_eq_true h.2]
  simp only [Bool.and_self, Option.bind_some, if_true, if_pos (show 0 < (s.size : Int) by omega), upper_eq, lower_eq, Bool.true_and]
  cases large
  ·cases hl : largeP (bt s 0)
   ·simp only [bne_self_eq_false, ff, Bool.false_eq_true, if_false]
    cases smallP (bt s 0)
    ·simp only [Bool.not_false, Bool.false_and]; exact jt
    ·simp only [Bool.not_true, Bool.true_and]; exact jf
   ·have hsm : smallP (bt s 0) = false := by
     cases h2 : smallP (bt s 0)
     ·rfl
     ·rw [small_large _ h2] at hl; cases hl
    simp only [show (false != true) = true from rfl, if_true, hsm, Bool.false_eq_true, if_false, Bool.false_and]; exact jt
  ·cases hl : largeP (bt s 0)
   ·simp only [show (true != false) = true from rfl, if_true, Bool.false_and]; exact jt
   ·simp only [bne_self_eq_false, ff, if_true, Bool.true_and]; exact jf
 ·have hn : (decide ((1 : Int) ≤ (s.size : Int)) && decide ((s.size : Int) ≤ 24)) = false := by
   rw [Bool.and_eq_false_iff, decide_eq_false_iff_not, decide_eq_false_iff_not]; omega
  have hn2 : (decide (1 ≤ s.size) && decide (s.size ≤ 24)) = false := by
   rw [Bool.and_eq_false_iff, decide_eq_false_iff_not, decide_eq_false_iff_not]; omega
  rw [hn, hn2]
  simp only [Option.bind_some, ff, Bool.false_and]; exact jt
theorem allFrom_congr {f g : Nat → Bool} (h : ∀ i, f i = g i) : ∀ m i, allFrom f m i = allFrom g m i
 | 0, _ => rfl
 | m + 1, i => by rw [allFrom, allFrom, h, allFrom_congr h m]
theorem word_sym (s : ByteArray) : wordP s false = symP s := by
 unfold wordP symP varAll
 rw [if_neg (by decide), allFrom_congr (g := symT s) (fun i => by unfold symT; rw [let_iff]; simp only [Bool.or_assoc])]
theorem rplain_loop (s : ByteArray) (hs : s.size ≤ 1000000) (a b : Int) : ∀ (m i : Nat), i + m = s.size → Ev (fun k => constableref01_Value.l0 k i a b s) (allFrom (plainT s) m i) := by
 intro m
 induction m with
 | zero =>
  intro i h
  refine Ev.step (fun k => by rw [constableref01_Value.l0, if_neg (by omega)]) ?_
  exact Ev.now _
 | succ m ih =>
  intro i h
  have hr := bt_range s i
  refine Ev.step (fun k => by rw [constableref01_Value.l0, if_pos (by omega), if_pos (by omega), in_eq, Option.bind_some, w64 hs (show i < s.size by omega), show wrap64 (bt s i) = bt s i by unfold wrap64; omega]) ?_
  rw [allFrom]
  show Ev (fun k => if plainT s i = true then _ else _) _
  cases plainT s i
  ·simp only [ff, Bool.false_and]; exact Ev.now _
  ·simp only [if_true, Bool.true_and]; exact ih (i + 1) (by omega)
theorem ev_value (a b : Int) (s : ByteArray) (hs : s.size ≤ 1000000) : Ev (fun k => constableref01_Value.f k a b s) (valP a b s == 0) := by
 have jt : Ev (fun k => constableref01_Value.j0 k true a b s) false := Ev.step (fun k => by rw [constableref01_Value.j0, if_pos rfl]) (Ev.now _)
 have jf : Ev (fun k => constableref01_Value.j0 k false a b s) (allFrom (plainT s) s.size 0) := Ev.step (fun k => by rw [constableref01_Value.j0, if_neg (by decide)]; rfl) (rplain_loop s hs a b s.size 0 (by omega))
 have hw := ev_word s hs false
 rw [word_sym] at hw
 have hnil : s.toList = ([] : List UInt8) ↔ s.size = 0 := by
  rw [ByteArray.toList_eq]
  constructor
  ·intro h; have := congrArg List.length h; simpa using this
  ·intro h; exact List.length_eq_zero_iff.1 (by simpa using h)
 unfold constableref01_Value.f valP
 by_cases h1 : a = 1
 ·simp only [if_pos h1, in_eq, Option.bind_some]
  by_cases h2 : b ≥ -4611686018427387904
  ·by_cases h3 : b ≤ 4611686018427387904
   ·simp only [decide_eq_true (show (-4611686018427387904 : Int) ≤ b from h2), decide_eq_true h3, Bool.and_self, if_true, if_pos h2, if_pos h3]
    by_cases h4 : s.size = 0
    ·rw [if_pos (hnil.2 h4), h4]; exact Ev.now _
    ·rw [if_neg (fun h => h4 (hnil.1 h)), show ((s.size : Int) == 0) = false from beq_eq_false_iff_ne.2 (by omega)]; exact Ev.now _
   ·simp only [decide_eq_false h3, Bool.and_false, ff, if_pos h2, if_neg h3]; exact Ev.now _
  ·simp only [decide_eq_false (show ¬ (-4611686018427387904 : Int) ≤ b from h2), Bool.false_and, ff, if_neg h2]; exact Ev.now _
 ·simp only [if_neg h1]
  by_cases h2 : a = 2
  ·simp only [if_pos h2]
   by_cases h3 : b = 0
   ·simp only [if_pos h3]
    refine Ev.bind hw ?_
    cases symP s
    ·exact Ev.now _
    ·exact Ev.now _
   ·simp only [if_neg h3]; exact Ev.now _
  ·simp only [if_neg h2]
   by_cases h3 : a = 3
   ·simp only [if_pos h3]
    by_cases h4 : b = 0
    ·simp only [if_pos h4]
     unfold plainP
     by_cases h5 : s.size ≤ 60
     ·rw [decide_eq_false (show ¬ (s.size : Int) > 60 by omega), decide_eq_true h5, Bool.and_true]
      cases h6 : allFrom (plainT s) s.size 0
      ·rw [h6] at jf; exact jf
      ·rw [h6] at jf; exact jf
     ·rw [decide_eq_true (show (s.size : Int) > 60 by omega), decide_eq_false h5, Bool.and_false]; exact jt
    ·simp only [if_neg h4]; exact jt
   ·simp only [if_neg h3]; exact Ev.now _
end Go.Proofs.YtghommaokdhjmaaGreat.SpecB
namespace Go.Proofs.YtghommaokdhjmaaGreat.P
open Go.RowKit Go.Proofs.YtghommaokdhjmaaGreatW.PrintWords Go.Proofs.YtghommaokdhjmaaGreatW.PrintLast Gate

def constableref01_words.f  : Option (List ByteArray) := some (([(⟨#[102, 97, 99, 116]⟩ : ByteArray), (⟨#[114, 117, 108, 101]⟩ : ByteArray), (⟨#[112, 97, 116, 116, 101, 114, 110]⟩ : ByteArray), (⟨#[110, 111, 116]⟩ : ByteArray), (⟨#[97, 110, 100]⟩ : ByteArray), (⟨#[111, 114]⟩ : ByteArray), (⟨#[98, 101, 102, 111, 114, 101]⟩ : ByteArray), (⟨#[111, 110, 99, 101]⟩ : ByteArray), (⟨#[97, 108, 119, 97, 121, 115]⟩ : ByteArray), (⟨#[115, 105, 110, 99, 101]⟩ : ByteArray), (⟨#[100, 114, 111, 112]⟩ : ByteArray)] : List ByteArray))
set_option maxHeartbeats 8000000 in
set_option maxRecDepth 100000 in
theorem constableref01_words.calls  (r : List ByteArray) (w : World) (h : constableref01_words.f  = some r) :
  Calls Tryz.prog 106 #[] w fun e w' => ∃ v0_ : Value, e = .returned (v0_) ∧ Kd.R Kd.string 9 w' w.heap.size (fun _ => True) v0_ r ∧ Below w.heap.size w w' := by
 have HB := Aside0.mk (Below.refl w.heap.size w)
 have H : (some (([(⟨#[102, 97, 99, 116]⟩ : ByteArray), (⟨#[114, 117, 108, 101]⟩ : ByteArray), (⟨#[112, 97, 116, 116, 101, 114, 110]⟩ : ByteArray), (⟨#[110, 111, 116]⟩ : ByteArray), (⟨#[97, 110, 100]⟩ : ByteArray), (⟨#[111, 114]⟩ : ByteArray), (⟨#[98, 101, 102, 111, 114, 101]⟩ : ByteArray), (⟨#[111, 110, 99, 101]⟩ : ByteArray), (⟨#[97, 108, 119, 97, 121, 115]⟩ : ByteArray), (⟨#[115, 105, 110, 99, 101]⟩ : ByteArray), (⟨#[100, 114, 111, 112]⟩ : ByteArray)] : List ByteArray))) = some r := h
 clear h
 obtain ⟨y723, hy723⟩ : ∃ y_ : List ByteArray, y_ = (([(⟨#[102, 97, 99, 116]⟩ : ByteArray), (⟨#[114, 117, 108, 101]⟩ : ByteArray), (⟨#[112, 97, 116, 116, 101, 114, 110]⟩ : ByteArray), (⟨#[110, 111, 116]⟩ : ByteArray), (⟨#[97, 110, 100]⟩ : ByteArray), (⟨#[111, 114]⟩ : ByteArray), (⟨#[98, 101, 102, 111, 114, 101]⟩ : ByteArray), (⟨#[111, 110, 99, 101]⟩ : ByteArray), (⟨#[97, 108, 119, 97, 121, 115]⟩ : ByteArray), (⟨#[115, 105, 110, 99, 101]⟩ : ByteArray), (⟨#[100, 114, 111, 112]⟩ : ByteArray)] : List ByteArray)) := ⟨_, rfl⟩
 replace H : (some y723) = some r := by first | (rw [hy723]; with_reducible exact H) | (have H2_ := (Option.bind_some _ _).symm.trans H; rw [hy723]; with_reducible exact H2_) | (have H2_ := (Option.bind_some _ _).symm.trans H; with_reducible exact H2_) | with_reducible exact H | (rw [hy723]; exact H) | exact H
 have Ny723 := Aside0.mk hy723
 clear hy723
 obtain rfl := Option.some.inj H
 go_enter Tryz.func106, Tryz.ntmps106
 go_wp2_with (first | ((with_reducible refine gate_dst (N := 1) rfl ?_); refine Kd.R_lit Kd.string _ 9 ?hg (N := 1) ?hd (xs := ([(⟨#[102, 97, 99, 116]⟩ : ByteArray), (⟨#[114, 117, 108, 101]⟩ : ByteArray), (⟨#[112, 97, 116, 116, 101, 114, 110]⟩ : ByteArray), (⟨#[110, 111, 116]⟩ : ByteArray), (⟨#[97, 110, 100]⟩ : ByteArray), (⟨#[111, 114]⟩ : ByteArray), (⟨#[98, 101, 102, 111, 114, 101]⟩ : ByteArray), (⟨#[111, 110, 99, 101]⟩ : ByteArray), (⟨#[97, 108, 119, 97, 121, 115]⟩ : ByteArray), (⟨#[115, 105, 110, 99, 101]⟩ : ByteArray), (⟨#[100, 114, 111, 112]⟩ : ByteArray)] : List ByteArray)) (inner := [.string (⟨#[102, 97, 99, 116]⟩ : ByteArray), .string (⟨#[114, 117, 108, 101]⟩ : ByteArray), .string (⟨#[112, 97, 116, 116, 101, 114, 110]⟩ : ByteArray), .string (⟨#[110, 111, 116]⟩ : ByteArray), .string (⟨#[97, 110, 100]⟩ : ByteArray), .string (⟨#[111, 114]⟩ : ByteArray), .string (⟨#[98, 101, 102, 111, 114, 101]⟩ : ByteArray), .string (⟨#[111, 110, 99, 101]⟩ : ByteArray), .string (⟨#[97, 108, 119, 97, 121, 115]⟩ : ByteArray), .string (⟨#[115, 105, 110, 99, 101]⟩ : ByteArray), .string (⟨#[100, 114, 111, 112]⟩ : ByteArray)]) (ok := fun _ => True) (okp := fun _ => True) ?hr ?hp (fun _ hk => hk) trivial (Below.refl _ _) (Nat.le_refl _) (by simp) ?_; (case hd => rfl); (case hg => rfl); (case hr => first | (go_simp; done) | (go_simp; rfl)); (case hp => exact (Reps.one (show Kd.M Kd.string _ _ _ (⟨#[102, 97, 99, 116]⟩ : ByteArray) [.string (⟨#[102, 97, 99, 116]⟩ : ByteArray)] from rfl) (Reps.one (show Kd.M Kd.string _ _ _ (⟨#[114, 117, 108, 101]⟩ : ByteArray) [.string (⟨#[114, 117, 108, 101]⟩ : ByteArray)] from rfl) (Reps.one (show Kd.M Kd.string _ _ _ (⟨#[112, 97, 116, 116, 101, 114, 110]⟩ : ByteArray) [.string (⟨#[112, 97, 116, 116, 101, 114, 110]⟩ : ByteArray)] from rfl) (Reps.one (show Kd.M Kd.string _ _ _ (⟨#[110, 111, 116]⟩ : ByteArray) [.string (⟨#[110, 111, 116]⟩ : ByteArray)] from rfl) (Reps.one (show Kd.M Kd.string _ _ _ (⟨#[97, 110, 100]⟩ : ByteArray) [.string (⟨#[97, 110, 100]⟩ : ByteArray)] from rfl) (Reps.one (show Kd.M Kd.string _ _ _ (⟨#[111, 114]⟩ : ByteArray) [.string (⟨#[111, 114]⟩ : ByteArray)] from rfl) (Reps.one (show Kd.M Kd.string _ _ _ (⟨#[98, 101, 102, 111, 114, 101]⟩ : ByteArray) [.string (⟨#[98, 101, 102, 111, 114, 101]⟩ : ByteArray)] from rfl) (Reps.one (show Kd.M Kd.string _ _ _ (⟨#[111, 110, 99, 101]⟩ : ByteArray) [.string (⟨#[111, 110, 99, 101]⟩ : ByteArray)] from rfl) (Reps.one (show Kd.M Kd.string _ _ _ (⟨#[97, 108, 119, 97, 121, 115]⟩ : ByteArray) [.string (⟨#[97, 108, 119, 97, 121, 115]⟩ : ByteArray)] from rfl) (Reps.one (show Kd.M Kd.string _ _ _ (⟨#[115, 105, 110, 99, 101]⟩ : ByteArray) [.string (⟨#[115, 105, 110, 99, 101]⟩ : ByteArray)] from rfl) (Reps.one (show Kd.M Kd.string _ _ _ (⟨#[100, 114, 111, 112]⟩ : ByteArray) [.string (⟨#[100, 114, 111, 112]⟩ : ByteArray)] from rfl) (Reps.none _ _))))))))))))); intro v724 w1 ho2 hb hg_ hnew_; clear hg_ hnew_; (first | rw [← Ny723.out] at ho2 | (simp only [Int.reduceToNat] at ho2; rw [← Ny723.out] at ho2)); have n0_ := Aside0.mk (Kd.R_lower ho2 (below_size bB0)); have n1_ := Aside0.mk (below_step bB0 hb); clear HB; have HO725 := n0_; have HB := n1_; clear n0_ n1_; clear hb ho2))
 go_ret
 exact ⟨_, eW, by (with_reducible repeat (first | apply Kd.R_alloc | apply Kd.R_drewN | apply Kd.R_drew)); exact HO725.out, bB0⟩

end Go.Proofs.YtghommaokdhjmaaGreat.P
namespace Go.Proofs.YtghommaokdhjmaaGreat.P
open Go.RowKit Go.Proofs.YtghommaokdhjmaaGreatW.PrintWords Go.Proofs.YtghommaokdhjmaaGreatW.PrintLast Gate

def constableref01_Name.l0 : Nat → ByteArray → List ByteArray → Int → Option (Bool)
 | 0, _, _, _ => none
 | k + 1, x0, x3, x4 => if x4 < (x3.length : Int) then (if 0 ≤ x4 then (if (rdOf ByteArray.empty x3 x4).toList = x0.toList then (some false) else (constableref01_Name.l0 k x0 x3 (wrap64 (x4 + 1)))) else (none)) else (some true)
def constableref01_Name.f (k : Nat) (a0 : ByteArray) : Option (Bool) := (constableref01_Word.f k a0 false).bind fun t726 => (if t726 = true then ((constableref01_words.f).bind fun t727 => (constableref01_Name.l0 k a0 t727 0)) else (some false))
set_option maxHeartbeats 8000000 in
set_option maxRecDepth 100000 in
theorem constableref01_Name.calls (k : Nat) (a0 : ByteArray) (r : Bool) (w : World) (h : constableref01_Name.f k a0 = some r) :
  Calls Tryz.prog 72 #[.string a0] w fun e w' => e = .returned (.bool r) ∧ Below w.heap.size w w' := by
 have HB := Aside0.mk (Below.refl w.heap.size w)
 have H : ((constableref01_Word.f k a0 false).bind fun t726 => (if t726 = true then ((constableref01_words.f).bind fun t727 => (constableref01_Name.l0 k a0 t727 0)) else (some false))) = some r := h
 clear h
 replace H := Option.bind_eq_some_iff.mp H
 obtain ⟨t726, A20, H⟩ := H
 replace H : (if t726 = true then ((constableref01_words.f).bind fun t727 => (constableref01_Name.l0 k a0 t727 0)) else (some false)) = some r := H
 have A2 := Aside0.mk A20
 clear A20
 by_cases c3 : t726 = true
 ·subst c3
  have H1 : ((constableref01_words.f).bind fun t727 => (constableref01_Name.l0 k a0 t727 0)) = some r := by rw [if_pos rfl] at H; exact H
  clear H
  have H := H1
  clear H1
  replace H := Option.bind_eq_some_iff.mp H
  obtain ⟨t727, A40, H⟩ := H
  replace H : (constableref01_Name.l0 k a0 t727 0) = some r := H
  have A4 := Aside0.mk A40
  clear A40
  have H' := Aside0.mk H
  clear H
  go_enter Tryz.func72, Tryz.ntmps72
  go_wp2_with (first | ((with_reducible refine gate_callee (f := 51) rfl ?_); refine goesL_ (some 6) rfl rfl Tryz.func51 (by kernel_rfl) rfl #[.string a0, .bool false] rfl aG ?_; (with_reducible refine (constableref01_Word.calls k a0 false true _ A2.out).mono ?_); rintro e w' ⟨rfl, ⟨nd, rfl⟩⟩; refine ⟨_, rfl, ?_⟩) | ((with_reducible refine gate_callee (f := 106) rfl ?_); refine goesL_ (some 8) rfl rfl Tryz.func106 (by kernel_rfl) rfl #[] rfl aG ?_; (with_reducible refine (constableref01_words.calls  t727 _ A4.out).mono ?_); rintro e w5 ⟨v728, rfl, ho0, hb⟩; refine ⟨_, rfl, ?_⟩; have n0_ := Aside0.mk (Kd.R_lower ho0 (below_size bB0)); have n1_ := Aside0.mk (below_step bB0 hb); clear HB; have HO729 := n0_; have HB := n1_; clear n0_ n1_; (try clear hb); (try clear hb2); (try clear hk); (try clear hi); (try clear ho0)))
  go_loopg [4] k (fun kq v4 w' => ∃ (x4_1 : Int), v4 = .int .i64 x4_1 ∧ Aside0 (constableref01_Name.l0 kq a0 t727 x4_1 = some r) ∧ Aside0 (kq ≤ k) ∧ Aside0 (Kd.R Kd.string 9 w' w.heap.size (fun _ => True) v728 t727) ∧ Aside0 (Below w.heap.size w w'))
  case atStart => exact ⟨(0), (by first | rfl | (simp; done) | (simp [*]; done)), H', ⟨Nat.le_refl _⟩, ⟨by (with_reducible repeat (first | apply Kd.R_alloc | apply Kd.R_drewN | apply Kd.R_drew)); exact HO729.out⟩, ⟨bB0⟩⟩
  case round =>
   clear H'
   (try clear c1); (try clear p2); (try clear c3); (try clear c5)
   obtain ⟨x4_1, rfl, HA, HK1, HO_3, HB⟩ := hrel
   cases gk with
   | zero => exact absurd HA.out (by simp [constableref01_Name.l0])
   | succ k1 =>
    have H := HA.out
    clear HA
    simp only [constableref01_Name.l0] at H
    by_cases c6 : x4_1 < (t727.length : Int)
    ·rw [if_pos c6] at H
     have c6b0 : decide (x4_1 < (t727.length : Int)) = true := decide_eq_true c6
     clear c6
     by_cases c7 : 0 ≤ x4_1
     ·rw [if_pos c7] at H
      have c7b0 : decide (0 ≤ x4_1) = true := decide_eq_true c7
      clear c7
      by_cases c8 : (rdOf ByteArray.empty t727 x4_1).toList = a0.toList
      ·rw [if_pos c8] at H
       have c8b0 : ((rdOf ByteArray.empty t727 x4_1).toList == a0.toList) = true := beq_iff_eq.mpr c8
       have c8b1 : ((rdOf ByteArray.empty t727 x4_1).toList != a0.toList) = false := bne_eq_false_iff_eq.mpr c8
       clear c8
       obtain rfl := Option.some.inj H
       obtain ⟨Ao9, co9, eo9⟩ := Kd.R_slice HO_3.out
       subst eo9
       have p730 : 0 ≤ (x4_1 : Int) := of_decide_eq_true (by first | (with_reducible assumption) | assumption)
       have q730 : x4_1 < (t727.length : Int) := of_decide_eq_true (by first | (with_reducible assumption) | assumption)
       obtain ⟨ad730, e730, hx730_0⟩ := Kd.at_string (Kd.R_reads' HO_3.out).2.2 x4_1 p730 q730
       cases e730
       replace p730 := eq_true p730
       replace q730 := eq_true q730
       go_wp2
       go_ret
       exact ⟨eW, bB0⟩
      ·rw [if_neg c8] at H
       have c8b0 : ((rdOf ByteArray.empty t727 x4_1).toList == a0.toList) = false := beq_eq_false_iff_ne.mpr c8
       have c8b1 : ((rdOf ByteArray.empty t727 x4_1).toList != a0.toList) = true := bne_iff_ne.mpr c8
       have H' := Aside0.mk H
       clear H
       obtain ⟨Ao10, co10, eo10⟩ := Kd.R_slice HO_3.out
       subst eo10
       have p730 : 0 ≤ (x4_1 : Int) := of_decide_eq_true (by first | (with_reducible assumption) | assumption)
       have q730 : x4_1 < (t727.length : Int) := of_decide_eq_true (by first | (with_reducible assumption) | assumption)
       obtain ⟨ad730, e730, hx730_0⟩ := Kd.at_string (Kd.R_reads' HO_3.out).2.2 x4_1 p730 q730
       cases e730
       replace p730 := eq_true p730
       replace q730 := eq_true q730
       go_wp2
       go_roundg k1
       case measure => have := HK1.out; omega
       case rel => exact ⟨(wrap64 (x4_1 + 1)), (by first | rfl | (simp; done) | (simp [*]; done)), H', ⟨by have := HK1.out; omega⟩, ⟨by (with_reducible repeat (first | apply Kd.R_alloc | apply Kd.R_drewN | apply Kd.R_drew)); exact HO_3.out⟩, ⟨bB0⟩⟩
     ·rw [if_neg c7] at H
      exact absurd H (by simp)
    ·rw [if_neg c6] at H
     have c6b0 : decide (x4_1 < (t727.length : Int)) = false := decide_eq_false c6
     clear c6
     obtain rfl := Option.some.inj H
     obtain ⟨Ao11, co11, eo11⟩ := Kd.R_slice HO_3.out
     subst eo11
     go_wp2
     go_ret
     exact ⟨eW, bB0⟩
 ·replace c3 := Bool.eq_false_iff.mpr c3
  subst c3
  have H1 : (some false) = some r := by rw [if_neg (show ¬ (false = true) by decide)] at H; exact H
  clear H
  have H := H1
  clear H1
  obtain rfl := Option.some.inj H
  go_enter Tryz.func72, Tryz.ntmps72
  go_wp2_with (first | ((with_reducible refine gate_callee (f := 51) rfl ?_); refine goesL_ (some 6) rfl rfl Tryz.func51 (by kernel_rfl) rfl #[.string a0, .bool false] rfl aG ?_; (with_reducible refine (constableref01_Word.calls k a0 false false _ A2.out).mono ?_); rintro e w' ⟨rfl, ⟨nd, rfl⟩⟩; refine ⟨_, rfl, ?_⟩))
  go_ret
  exact ⟨eW, bB0⟩

end Go.Proofs.YtghommaokdhjmaaGreat.P
namespace Go.Proofs.YtghommaokdhjmaaGreat.P
open Go.RowKit Go.Proofs.YtghommaokdhjmaaGreatW.PrintWords Go.Proofs.YtghommaokdhjmaaGreatW.PrintLast Gate

mutual
def constableref01_Fact.j0 : Nat → Bool → ByteArray → List (S64) → Option (Bool)
 | 0, _, _, _ => none
 | k + 1, x13, x732000, x732001 => if x13 = true then (some false) else (constableref01_Fact.l0 k 0 x732000 x732001)
def constableref01_Fact.l0 : Nat → Int → ByteArray → List (S64) → Option (Bool)
 | 0, _, _, _ => none
 | k + 1, x3, x732000, x732001 => if x3 < (x732001.length : Int) then (if 0 ≤ x3 then ((constableref01_Value.f k ((rd_T64 x732001 x3).f0) ((rd_T64 x732001 x3).f1) ((rd_T64 x732001 x3).f2)).bind fun t734 => (if t734 = true then (constableref01_Fact.l0 k (wrap64 (x3 + 1)) x732000 x732001) else (some false))) else (none)) else (some true)
end
def constableref01_Fact.f (k : Nat) (a0_0 : ByteArray) (l0_1 : List (S64)) : Option (Bool) := (constableref01_Name.f k a0_0).bind fun t732 => (if t732 = true then (constableref01_Fact.j0 k (decide ((l0_1.length : Int) > 5)) a0_0 l0_1) else (constableref01_Fact.j0 k true a0_0 l0_1))
set_option maxHeartbeats 8000000 in
set_option maxRecDepth 100000 in
theorem constableref01_Fact.calls (k : Nat) (a0_0 : ByteArray) (A0_1 : Option Addr) (c0_1 : Nat) (l0_1 : List (S64)) (r : Bool) (w : World) (hr0_1 : Kd.C k64 w A0_1 l0_1.length l0_1) (hc0_1 : l0_1.length ≤ c0_1) (h : constableref01_Fact.f k a0_0 l0_1 = some r) :
  Calls Tryz.prog 45 #[.agg #[.string a0_0, .slice A0_1 l0_1.length c0_1]] w fun e w' => e = .returned (.bool r) ∧ Below w.heap.size w w' := by
 have hu58 := Tryz.underlying58
 have hu64 := Tryz.underlying64
 have HR0_1 := Aside0.mk hr0_1
 have HC0_1 := Aside0.mk hc0_1
 clear hr0_1 hc0_1
 have HB := Aside0.mk (Below.refl w.heap.size w)
 have H : ((constableref01_Name.f k a0_0).bind fun t732 => (if t732 = true then (constableref01_Fact.j0 k (decide ((l0_1.length : Int) > 5)) a0_0 l0_1) else (constableref01_Fact.j0 k true a0_0 l0_1))) = some r := h
 clear h
 have HC2 := Aside0.mk H
 clear H
 go_enter Tryz.func45, Tryz.ntmps45
 go_upto_region 1 with (first | ((with_reducible refine gate_dst (N := 1) rfl ?_); (try (refine gate_guard (by rfl) ?_; dsimp only)); refine bE (N := 1) (cs := #[.string a0_0, .slice A0_1 l0_1.length c0_1]) (t := 58) ?_; intro gb731 hg w3 hbox hb; have n0_ := Aside0.mk (below_step bB0 hb); have n1_ := Aside0.mk (hbox); have n2_ := Aside0.mk ((by rw [hg]; exact (below_size bB0) : w.heap.size ≤ gb731)); have n3_ := Aside0.mk ((by rw [hg]; exact (below_size bB0) : w.heap.size ≤ gb731)); clear HB; have HB := n0_; have BK731 := n1_; have GW731 := n2_; have GE731 := n3_; clear n0_ n1_ n2_ n3_; clear hb hbox hg))
 (try simp only [Act.put, List.setIfInBounds_toArray, List.set_cons_zero, List.set_cons_succ])
 go_cut [13] (fun v13 wc => ∃ (kq : Nat) (x13_1 : Bool), v13 = .bool x13_1 ∧ Aside0 (constableref01_Fact.j0 kq x13_1 a0_0 l0_1 = some r) ∧ Aside0 (kq ≤ k) ∧ Aside0 (wc.heap[gb731]? = some (.cells #[.string a0_0, (.slice A0_1 l0_1.length c0_1)] 58 (0, 0))) ∧ Aside0 (Below w.heap.size w wc))
 case first =>
  have H := HC2.out
  clear HC2
  replace H := Option.bind_eq_some_iff.mp H
  obtain ⟨t732, A40, H⟩ := H
  replace H : (if t732 = true then (constableref01_Fact.j0 k (decide ((l0_1.length : Int) > 5)) a0_0 l0_1) else (constableref01_Fact.j0 k true a0_0 l0_1)) = some r := H
  have A4 := Aside0.mk A40
  clear A40
  by_cases c5 : t732 = true
  ·subst c5
   have H1 : (constableref01_Fact.j0 k (decide ((l0_1.length : Int) > 5)) a0_0 l0_1) = some r := by rw [if_pos rfl] at H; exact H
   clear H
   have H := H1
   clear H1
   have H' := Aside0.mk H
   clear H
   have hcz6_0 : w3.cell? ⟨gb731, 0, none⟩ = some (.string a0_0) := (blk_cell BK731.out 0).trans rfl
   have hcz6_1 : w3.cell? ⟨gb731, 1, none⟩ = some (.slice A0_1 l0_1.length c0_1) := (blk_cell BK731.out 1).trans rfl
   have hfz6_0 := blk_frozen BK731.out 0
   have hfz6_1 := blk_frozen BK731.out 1
   go_wp2_with (first | ((with_reducible refine gate_callee (f := 72) rfl ?_); refine goesL_ (some 6) rfl rfl Tryz.func72 (by kernel_rfl) rfl #[.string a0_0] rfl aG ?_; (with_reducible refine (constableref01_Name.calls k a0_0 true _ A4.out).mono ?_); rintro e w7 ⟨rfl, hb⟩; refine ⟨_, rfl, ?_⟩; have n0_ := Aside0.mk (blk_below (g := gb731) (o := .cells #[.string a0_0, .slice A0_1 l0_1.length c0_1] 58 (0, 0)) (by refine bk ?_; exact BK731.out) hb); have n1_ := Aside0.mk (below_step (bB1 GE731.out) hb); clear BK731; clear HB; have BK731 := n0_; have HB := n1_; clear n0_ n1_; (try clear hb); (try clear hb2); (try clear hk); (try clear hi); have hcz8_0 : w7.cell? ⟨gb731, 0, none⟩ = some (.string a0_0) := (blk_cell BK731.out 0).trans rfl; have hcz8_1 : w7.cell? ⟨gb731, 1, none⟩ = some (.slice A0_1 l0_1.length c0_1) := (blk_cell BK731.out 1).trans rfl; have hfz8_0 := blk_frozen BK731.out 0; have hfz8_1 := blk_frozen BK731.out 1))
   go_meet
   case rel => exact ⟨_, (decide ((l0_1.length : Int) > 5)), (by first | rfl | (simp; done) | (simp [*]; done)), H', ⟨by first | omega | exact Nat.le_refl _⟩, ⟨by refine bk ?_; exact BK731.out⟩, ⟨(bB1 GE731.out)⟩⟩
  ·replace c5 := Bool.eq_false_iff.mpr c5
   subst c5
   have H1 : (constableref01_Fact.j0 k true a0_0 l0_1) = some r := by rw [if_neg (show ¬ (false = true) by decide)] at H; exact H
   clear H
   have H := H1
   clear H1
   have H' := Aside0.mk H
   clear H
   have hcz9_0 : w3.cell? ⟨gb731, 0, none⟩ = some (.string a0_0) := (blk_cell BK731.out 0).trans rfl
   have hcz9_1 : w3.cell? ⟨gb731, 1, none⟩ = some (.slice A0_1 l0_1.length c0_1) := (blk_cell BK731.out 1).trans rfl
   have hfz9_0 := blk_frozen BK731.out 0
   have hfz9_1 := blk_frozen BK731.out 1
   go_wp2_with (first | ((with_reducible refine gate_callee (f := 72) rfl ?_); refine goesL_ (some 6) rfl rfl Tryz.func72 (by kernel_rfl) rfl #[.string a0_0] rfl aG ?_; (with_reducible refine (constableref01_Name.calls k a0_0 false _ A4.out).mono ?_); rintro e w10 ⟨rfl, hb⟩; refine ⟨_, rfl, ?_⟩; have n0_ := Aside0.mk (blk_below (g := gb731) (o := .cells #[.string a0_0, .slice A0_1 l0_1.length c0_1] 58 (0, 0)) (by refine bk ?_; exact BK731.out) hb); have n1_ := Aside0.mk (below_step (bB1 GE731.out) hb); clear BK731; clear HB; have BK731 := n0_; have HB := n1_; clear n0_ n1_; (try clear hb); (try clear hb2); (try clear hk); (try clear hi)))
   go_meet
   case rel => exact ⟨_, (true), (by first | rfl | (simp; done) | (simp [*]; done)), H', ⟨by first | omega | exact Nat.le_refl _⟩, ⟨by refine bk ?_; exact BK731.out⟩, ⟨(bB1 GE731.out)⟩⟩
 case rest =>
  clear HC2
  (try clear p2); (try clear c4); (try clear c5); (try clear c7); (try clear hcz6_0); (try clear hcz6_1); (try clear hcz8_0); (try clear hcz8_1); (try clear hcz9_0); (try clear hcz9_1); (try clear hfz6_0); (try clear hfz6_1); (try clear hfz8_0); (try clear hfz8_1); (try clear hfz9_0); (try clear hfz9_1)
  obtain ⟨kq, x13_1, rfl, HA, HJ1, BK731, HB⟩ := hcut
  cases kq with
  | zero => exact absurd HA.out (by simp [constableref01_Fact.j0])
  | succ kj1 =>
   have H := HA.out
   clear HA
   simp only [constableref01_Fact.j0] at H
   by_cases c11 : x13_1 = true
   ·subst c11
    have H1 : (some false) = some r := by rw [if_pos rfl] at H; exact H
    clear H
    have H := H1
    clear H1
    obtain rfl := Option.some.inj H
    go_wp2
    go_ret
    exact ⟨eW, (bB1 GE731.out)⟩
   ·replace c11 := Bool.eq_false_iff.mpr c11
    subst c11
    have H1 : (constableref01_Fact.l0 kj1 0 a0_0 l0_1) = some r := by rw [if_neg (show ¬ (false = true) by decide)] at H; exact H
    clear H
    have H := H1
    clear H1
    have H' := Aside0.mk H
    clear H
    go_wp2
    go_loopg [3] kj1 (fun kq v3 w' => ∃ (x3_2 : Int), v3 = .int .i64 x3_2 ∧ Aside0 (constableref01_Fact.l0 kq x3_2 a0_0 l0_1 = some r) ∧ Aside0 (kq ≤ kj1) ∧ Aside0 (w'.heap[gb731]? = some (.cells #[.string a0_0, (.slice A0_1 l0_1.length c0_1)] 58 (0, 0))) ∧ Aside0 (Below w.heap.size w w'))
    case atStart => exact ⟨(0), (by first | rfl | (simp; done) | (simp [*]; done)), H', ⟨Nat.le_refl _⟩, ⟨by refine bk ?_; exact BK731.out⟩, ⟨(bB1 GE731.out)⟩⟩
    case round =>
     clear H'
     (try clear c1); (try clear p2); (try clear c4); (try clear c5); (try clear c7); (try clear c11); (try clear hcz6_0); (try clear hcz6_1); (try clear hcz8_0); (try clear hcz8_1); (try clear hcz9_0); (try clear hcz9_1); (try clear hfz6_0); (try clear hfz6_1); (try clear hfz8_0); (try clear hfz8_1); (try clear hfz9_0); (try clear hfz9_1); (try clear p2)
     obtain ⟨x3_2, rfl, HA, HK2, BK731, HB⟩ := hrel
     cases gk with
     | zero => exact absurd HA.out (by simp [constableref01_Fact.l0])
     | succ k2 =>
      have H := HA.out
      clear HA
      simp only [constableref01_Fact.l0] at H
      by_cases c12 : x3_2 < (l0_1.length : Int)
      ·rw [if_pos c12] at H
       have c12b0 : decide (x3_2 < (l0_1.length : Int)) = true := decide_eq_true c12
       clear c12
       by_cases c13 : 0 ≤ x3_2
       ·rw [if_pos c13] at H
        have c13b0 : decide (0 ≤ x3_2) = true := decide_eq_true c13
        clear c13
        replace H := Option.bind_eq_some_iff.mp H
        obtain ⟨t734, A140, H⟩ := H
        replace H : (if t734 = true then (constableref01_Fact.l0 k2 (wrap64 (x3_2 + 1)) a0_0 l0_1) else (some false)) = some r := H
        have A14 := Aside0.mk A140
        clear A140
        by_cases c15 : t734 = true
        ·subst c15
         have H1 : (constableref01_Fact.l0 k2 (wrap64 (x3_2 + 1)) a0_0 l0_1) = some r := by rw [if_pos rfl] at H; exact H
         clear H
         have H := H1
         clear H1
         have H' := Aside0.mk H
         clear H
         have hcz16_0 : wr.cell? ⟨gb731, 0, none⟩ = some (.string a0_0) := (blk_cell BK731.out 0).trans rfl
         have hcz16_1 : wr.cell? ⟨gb731, 1, none⟩ = some (.slice A0_1 l0_1.length c0_1) := (blk_cell BK731.out 1).trans rfl
         have hfz16_0 := blk_frozen BK731.out 0
         have hfz16_1 := blk_frozen BK731.out 1
         have p733 : 0 ≤ (x3_2 : Int) := of_decide_eq_true (by first | (with_reducible assumption) | assumption)
         have q733 : x3_2 < (l0_1.length : Int) := of_decide_eq_true (by first | (with_reducible assumption) | assumption)
         obtain ⟨ad733, e733, hx733_0, hx733_1, hx733_2⟩ := at_T64 HR0_1.out x3_2 p733 q733
         cases e733
         replace hx733_0 := (HB.out.cell (World.block_lt_of_cell? w _ hx733_0)).trans hx733_0
         replace hx733_1 := (HB.out.cell (World.block_lt_of_cell? w _ hx733_1)).trans hx733_1
         replace hx733_2 := (HB.out.cell (World.block_lt_of_cell? w _ hx733_2)).trans hx733_2
         replace p733 := eq_true p733
         replace q733 := eq_true q733
         go_wp2_with (first | ((with_reducible refine gate_callee (f := 52) rfl ?_); refine goesL_ (some 26) rfl rfl Tryz.func52 (by kernel_rfl) rfl #[.agg #[.int .i64 ((rd_T64 l0_1 x3_2).f0), .int .i64 ((rd_T64 l0_1 x3_2).f1), .string ((rd_T64 l0_1 x3_2).f2)]] rfl aG ?_; (with_reducible refine (constableref01_Value.calls k2 ((rd_T64 l0_1 x3_2).f0) ((rd_T64 l0_1 x3_2).f1) ((rd_T64 l0_1 x3_2).f2) true _ A14.out).mono ?_); rintro e w17 ⟨rfl, hb⟩; refine ⟨_, rfl, ?_⟩; have n0_ := Aside0.mk (blk_below (g := gb731) (o := .cells #[.string a0_0, .slice (some ad733) l0_1.length c0_1] 58 (0, 0)) (by refine bk ?_; exact BK731.out) hb); have n1_ := Aside0.mk (below_step (bB1 GE731.out) hb); clear BK731; clear HB; have BK731 := n0_; have HB := n1_; clear n0_ n1_; (try clear hb); (try clear hb2); (try clear hk); (try clear hi)))
         go_roundg k2
         case measure => have := HJ1.out; have := HK2.out; omega
         case rel => exact ⟨(wrap64 (x3_2 + 1)), (by first | rfl | (simp; done) | (simp [*]; done)), H', ⟨by have := HJ1.out; have := HK2.out; omega⟩, ⟨by refine bk ?_; exact BK731.out⟩, ⟨(bB1 GE731.out)⟩⟩
        ·replace c15 := Bool.eq_false_iff.mpr c15
         subst c15
         have H1 : (some false) = some r := by rw [if_neg (show ¬ (false = true) by decide)] at H; exact H
         clear H
         have H := H1
         clear H1
         obtain rfl := Option.some.inj H
         have hcz18_0 : wr.cell? ⟨gb731, 0, none⟩ = some (.string a0_0) := (blk_cell BK731.out 0).trans rfl
         have hcz18_1 : wr.cell? ⟨gb731, 1, none⟩ = some (.slice A0_1 l0_1.length c0_1) := (blk_cell BK731.out 1).trans rfl
         have hfz18_0 := blk_frozen BK731.out 0
         have hfz18_1 := blk_frozen BK731.out 1
         have p733 : 0 ≤ (x3_2 : Int) := of_decide_eq_true (by first | (with_reducible assumption) | assumption)
         have q733 : x3_2 < (l0_1.length : Int) := of_decide_eq_true (by first | (with_reducible assumption) | assumption)
         obtain ⟨ad733, e733, hx733_0, hx733_1, hx733_2⟩ := at_T64 HR0_1.out x3_2 p733 q733
         cases e733
         replace hx733_0 := (HB.out.cell (World.block_lt_of_cell? w _ hx733_0)).trans hx733_0
         replace hx733_1 := (HB.out.cell (World.block_lt_of_cell? w _ hx733_1)).trans hx733_1
         replace hx733_2 := (HB.out.cell (World.block_lt_of_cell? w _ hx733_2)).trans hx733_2
         replace p733 := eq_true p733
         replace q733 := eq_true q733
         go_wp2_with (first | ((with_reducible refine gate_callee (f := 52) rfl ?_); refine goesL_ (some 26) rfl rfl Tryz.func52 (by kernel_rfl) rfl #[.agg #[.int .i64 ((rd_T64 l0_1 x3_2).f0), .int .i64 ((rd_T64 l0_1 x3_2).f1), .string ((rd_T64 l0_1 x3_2).f2)]] rfl aG ?_; (with_reducible refine (constableref01_Value.calls k2 ((rd_T64 l0_1 x3_2).f0) ((rd_T64 l0_1 x3_2).f1) ((rd_T64 l0_1 x3_2).f2) false _ A14.out).mono ?_); rintro e w19 ⟨rfl, hb⟩; refine ⟨_, rfl, ?_⟩; have n0_ := Aside0.mk (blk_below (g := gb731) (o := .cells #[.string a0_0, .slice (some ad733) l0_1.length c0_1] 58 (0, 0)) (by refine bk ?_; exact BK731.out) hb); have n1_ := Aside0.mk (below_step (bB1 GE731.out) hb); clear BK731; clear HB; have BK731 := n0_; have HB := n1_; clear n0_ n1_; (try clear hb); (try clear hb2); (try clear hk); (try clear hi)))
         go_ret
         exact ⟨eW, (bB1 GE731.out)⟩
       ·rw [if_neg c13] at H
        exact absurd H (by simp)
      ·rw [if_neg c12] at H
       have c12b0 : decide (x3_2 < (l0_1.length : Int)) = false := decide_eq_false c12
       clear c12
       obtain rfl := Option.some.inj H
       have hcz20_0 : wr.cell? ⟨gb731, 0, none⟩ = some (.string a0_0) := (blk_cell BK731.out 0).trans rfl
       have hcz20_1 : wr.cell? ⟨gb731, 1, none⟩ = some (.slice A0_1 l0_1.length c0_1) := (blk_cell BK731.out 1).trans rfl
       have hfz20_0 := blk_frozen BK731.out 0
       have hfz20_1 := blk_frozen BK731.out 1
       go_wp2
       go_ret
       exact ⟨eW, (bB1 GE731.out)⟩

end Go.Proofs.YtghommaokdhjmaaGreat.P
namespace Go.Proofs.YtghommaokdhjmaaGreat.P
open Go.RowKit Go.Proofs.YtghommaokdhjmaaGreatW.PrintWords Go.Proofs.YtghommaokdhjmaaGreatW.PrintLast Gate

def constableref09_Trace.l0 : Nat → List (S58) → Int → Option (Int)
 | 0, _, _ => none
 | k + 1, x0, x3 => if x3 < (x0.length : Int) then (if 0 ≤ x3 then ((constableref01_Fact.f k ((rd_T58 x0 x3).f0) ((rd_T58 x0 x3).f1)).bind fun t736 => (if t736 = true then (constableref09_Trace.l0 k x0 (wrap64 (x3 + 1))) else (some 1))) else (none)) else (some 0)
def constableref09_Trace.f (k : Nat) (l0 : List (S58)) : Option (Int) := if (l0.length : Int) > 200 then (some 2) else (constableref09_Trace.l0 k l0 0)
set_option maxHeartbeats 8000000 in
set_option maxRecDepth 100000 in
theorem constableref09_Trace.calls (k : Nat) (A0 : Option Addr) (c0 : Nat) (l0 : List (S58)) (r : Int) (w : World) (hr0 : Kd.C k58 w A0 l0.length l0) (hc0 : l0.length ≤ c0) (h : constableref09_Trace.f k l0 = some r) :
  Calls Tryz.prog 18 #[.slice A0 l0.length c0] w fun e w' => e = .returned (.int .i64 r) ∧ Below w.heap.size w w' := by
 have hu58 := Tryz.underlying58
 have HR0 := Aside0.mk hr0
 have HC0 := Aside0.mk hc0
 clear hr0 hc0
 have HB := Aside0.mk (Below.refl w.heap.size w)
 have H : (if (l0.length : Int) > 200 then (some 2) else (constableref09_Trace.l0 k l0 0)) = some r := h
 clear h
 by_cases c2 : (l0.length : Int) > 200
 ·rw [if_pos c2] at H
  have c2b0 : decide (200 < (l0.length : Int)) = true := decide_eq_true c2
  have c2b1 : decide (200 < l0.length) = true := decide_eq_true (by omega)
  clear c2
  obtain rfl := Option.some.inj H
  go_enter Tryz.func18, Tryz.ntmps18
  go_wp2
  go_ret
  exact ⟨eW, bB0⟩
 ·rw [if_neg c2] at H
  have c2b0 : decide (200 < (l0.length : Int)) = false := decide_eq_false c2
  have c2b1 : decide (200 < l0.length) = false := decide_eq_false (by omega)
  clear c2
  have H' := Aside0.mk H
  clear H
  go_enter Tryz.func18, Tryz.ntmps18
  go_wp2
  go_loopg [3] k (fun kq v3 w' => ∃ (x3_1 : Int), v3 = .int .i64 x3_1 ∧ Aside0 (constableref09_Trace.l0 kq l0 x3_1 = some r) ∧ Aside0 (kq ≤ k) ∧ Aside0 (Below w.heap.size w w'))
  case atStart => exact ⟨(0), (by first | rfl | (simp; done) | (simp [*]; done)), H', ⟨Nat.le_refl _⟩, ⟨bB0⟩⟩
  case round =>
   clear H'
   (try clear c1); (try clear c2); (try clear c2b0); (try clear c2b1); (try clear p2)
   obtain ⟨x3_1, rfl, HA, HK1, HB⟩ := hrel
   cases gk with
   | zero => exact absurd HA.out (by simp [constableref09_Trace.l0])
   | succ k1 =>
    have H := HA.out
    clear HA
    simp only [constableref09_Trace.l0] at H
    by_cases c3 : x3_1 < (l0.length : Int)
    ·rw [if_pos c3] at H
     have c3b0 : decide (x3_1 < (l0.length : Int)) = true := decide_eq_true c3
     clear c3
     by_cases c4 : 0 ≤ x3_1
     ·rw [if_pos c4] at H
      have c4b0 : decide (0 ≤ x3_1) = true := decide_eq_true c4
      clear c4
      replace H := Option.bind_eq_some_iff.mp H
      obtain ⟨t736, A50, H⟩ := H
      replace H : (if t736 = true then (constableref09_Trace.l0 k1 l0 (wrap64 (x3_1 + 1))) else (some 1)) = some r := H
      have A5 := Aside0.mk A50
      clear A50
      by_cases c6 : t736 = true
      ·subst c6
       have H1 : (constableref09_Trace.l0 k1 l0 (wrap64 (x3_1 + 1))) = some r := by rw [if_pos rfl] at H; exact H
       clear H
       have H := H1
       clear H1
       have H' := Aside0.mk H
       clear H
       have p735 : 0 ≤ (x3_1 : Int) := of_decide_eq_true (by first | (with_reducible assumption) | assumption)
       have q735 : x3_1 < (l0.length : Int) := of_decide_eq_true (by first | (with_reducible assumption) | assumption)
       obtain ⟨ad735, A735_1, c735_1, e735, hx735_0, hx735_1, hl735_1, hi735_1⟩ := at_T58 HR0.out x3_1 p735 q735
       cases e735
       have HZ735_1 := Aside0.mk hx735_1
       replace hx735_0 := (HB.out.cell (World.block_lt_of_cell? w _ hx735_0)).trans hx735_0
       replace hx735_1 := (HB.out.cell (World.block_lt_of_cell? w _ hx735_1)).trans hx735_1
       have HR735_1 := Aside0.mk hi735_1
       have HC735_1 := Aside0.mk hl735_1
       clear hi735_1 hl735_1
       replace p735 := eq_true p735
       replace q735 := eq_true q735
       go_wp2_with (first | ((with_reducible refine gate_callee (f := 45) rfl ?_); refine goesL_ (some 17) rfl rfl Tryz.func45 (by kernel_rfl) rfl #[.agg #[.string ((rd_T58 l0 x3_1).f0), .slice A735_1 ((rd_T58 l0 x3_1).f1).length c735_1]] rfl aG ?_; (with_reducible refine (constableref01_Fact.calls k1 ((rd_T58 l0 x3_1).f0) _ _ ((rd_T58 l0 x3_1).f1) true _ ?side1 ?side2 A5.out).mono ?_); (case side1 => exact sC (Kd.C_below HR735_1.out HB.out)); (case side2 => exact HC735_1.out); rintro e w7 ⟨rfl, hb⟩; refine ⟨_, rfl, ?_⟩; have n0_ := Aside0.mk (below_step bB0 hb); clear HB; have HB := n0_; clear n0_; (try clear hb); (try clear hb2); (try clear hk); (try clear hi)))
       go_roundg k1
       case measure => have := HK1.out; omega
       case rel => exact ⟨(wrap64 (x3_1 + 1)), (by first | rfl | (simp; done) | (simp [*]; done)), H', ⟨by have := HK1.out; omega⟩, ⟨bB0⟩⟩
      ·replace c6 := Bool.eq_false_iff.mpr c6
       subst c6
       have H1 : (some 1) = some r := by rw [if_neg (show ¬ (false = true) by decide)] at H; exact H
       clear H
       have H := H1
       clear H1
       obtain rfl := Option.some.inj H
       have p735 : 0 ≤ (x3_1 : Int) := of_decide_eq_true (by first | (with_reducible assumption) | assumption)
       have q735 : x3_1 < (l0.length : Int) := of_decide_eq_true (by first | (with_reducible assumption) | assumption)
       obtain ⟨ad735, A735_1, c735_1, e735, hx735_0, hx735_1, hl735_1, hi735_1⟩ := at_T58 HR0.out x3_1 p735 q735
       cases e735
       have HZ735_1 := Aside0.mk hx735_1
       replace hx735_0 := (HB.out.cell (World.block_lt_of_cell? w _ hx735_0)).trans hx735_0
       replace hx735_1 := (HB.out.cell (World.block_lt_of_cell? w _ hx735_1)).trans hx735_1
       have HR735_1 := Aside0.mk hi735_1
       have HC735_1 := Aside0.mk hl735_1
       clear hi735_1 hl735_1
       replace p735 := eq_true p735
       replace q735 := eq_true q735
       go_wp2_with (first | ((with_reducible refine gate_callee (f := 45) rfl ?_); refine goesL_ (some 17) rfl rfl Tryz.func45 (by kernel_rfl) rfl #[.agg #[.string ((rd_T58 l0 x3_1).f0), .slice A735_1 ((rd_T58 l0 x3_1).f1).length c735_1]] rfl aG ?_; (with_reducible refine (constableref01_Fact.calls k1 ((rd_T58 l0 x3_1).f0) _ _ ((rd_T58 l0 x3_1).f1) false _ ?side1 ?side2 A5.out).mono ?_); (case side1 => exact sC (Kd.C_below HR735_1.out HB.out)); (case side2 => exact HC735_1.out); rintro e w8 ⟨rfl, hb⟩; refine ⟨_, rfl, ?_⟩; have n0_ := Aside0.mk (below_step bB0 hb); clear HB; have HB := n0_; clear n0_; (try clear hb); (try clear hb2); (try clear hk); (try clear hi)))
       go_ret
       exact ⟨eW, bB0⟩
     ·rw [if_neg c4] at H
      exact absurd H (by simp)
    ·rw [if_neg c3] at H
     have c3b0 : decide (x3_1 < (l0.length : Int)) = false := decide_eq_false c3
     clear c3
     obtain rfl := Option.some.inj H
     go_wp2
     go_ret
     exact ⟨eW, bB0⟩

end Go.Proofs.YtghommaokdhjmaaGreat.P
/- The references' fact and trace answer what the plain forms say; texts no longer than a million bytes. -/
namespace Go.Proofs.YtghommaokdhjmaaGreat.Sat
open Go.RowKit Go.Lib Go.Proofs.YtghommaokdhjmaaGreatW.PrintWords P Str PSpec CmpF FactC SpecM
open SpecB
theorem rname_loop (s : ByteArray) (l : List ByteArray) (hl : l.length ≤ 1000000) : ∀ (m i : Nat), i + m = l.length → Ev (fun k => constableref01_Name.l0 k s l i) (!(l.drop i).any fun x => decide (s = x)) := by
 intro m
 induction m with
 | zero =>
  intro i h
  refine Ev.step (fun k => by rw [constableref01_Name.l0, if_neg (by omega)]) ?_
  rw [List.drop_eq_nil_of_le (by omega)]
  exact Ev.now _
 | succ m ih =>
  intro i h
  have hi : i < l.length := by omega
  have hrd : rdOf ByteArray.empty l (i : Int) = l[i] := by
   unfold rdOf
   rw [Int.toNat_natCast, List.getD_eq_getElem?_getD, List.getElem?_eq_getElem hi]; rfl
  refine Ev.step (fun k => by rw [constableref01_Name.l0, if_pos (by omega), if_pos (by omega), hrd, w64 hl hi]) ?_
  rw [List.drop_eq_getElem_cons hi, List.any_cons]
  by_cases e : s = l[i]
  ·simp only [if_pos ((FactC.tl_iff _ _).2 e.symm), decide_eq_true e, Bool.true_or, Bool.not_true]; exact Ev.now _
  ·simp only [if_neg (fun h => e ((FactC.tl_iff _ _).1 h).symm), decide_eq_false e, Bool.false_or]; exact ih (i + 1) (by omega)
theorem ev_rname (s : ByteArray) (hs : s.size ≤ 1000000) : Ev (fun k => constableref01_Name.f k s) (nameP s) := by
 have hw := ev_word s hs false
 rw [word_sym] at hw
 unfold constableref01_Name.f nameP
 have hv : (valP 2 0 s == 0) = symP s := by
  unfold valP
  rw [if_neg (by decide), if_pos rfl, if_pos rfl]
  cases symP s <;> rfl
 rw [hv]
 refine Ev.bind hw ?_
 cases symP s
 ·simp only [Bool.false_eq_true, if_false, Bool.false_and]; exact Ev.now _
 ·simp only [if_true, Bool.true_and]
  unfold constableref01_words.f
  simp only [Option.bind_some]
  exact rname_loop s wordsL (by decide) wordsL.length 0 (by decide)
theorem rfact_loop (vs : List S64) (nm : ByteArray) (fv : fitV vs = true) (hl : vs.length ≤ 1000000) : ∀ (m i : Nat), i + m = vs.length → Ev (fun k => constableref01_Fact.l0 k i nm vs) ((vs.drop i).all fun v => valP v.f0 v.f1 v.f2 == 0) := by
 intro m
 induction m with
 | zero =>
  intro i h
  refine Ev.step (fun k => by rw [constableref01_Fact.l0, if_neg (by omega)]) ?_
  rw [List.drop_eq_nil_of_le (by omega)]
  exact Ev.now _
 | succ m ih =>
  intro i h
  have hi : i < vs.length := by omega
  refine Ev.step (fun k => by rw [constableref01_Fact.l0, if_pos (by omega), if_pos (by omega), rd24_get hi, w64 hl hi]) ?_
  rw [List.drop_eq_getElem_cons hi, List.all_cons]
  refine Ev.bind (ev_value vs[i].f0 vs[i].f1 vs[i].f2 (fitV_mem.1 fv _ (List.getElem_mem hi))) ?_
  cases (valP vs[i].f0 vs[i].f1 vs[i].f2 == 0)
  ·simp only [Bool.false_eq_true, if_false, Bool.false_and]; exact Ev.now _
  ·simp only [if_true, Bool.true_and]; exact ih (i + 1) (by omega)
theorem ev_rfact {a : ByteArray} {vs : List S64} (ha : a.size ≤ 1000000) (fv : fitV vs = true) : Ev (fun k => constableref01_Fact.f k a vs) (decide (factP a vs = 0)) := by
 have jt : Ev (fun k => constableref01_Fact.j0 k true a vs) false := Ev.step (fun k => by rw [constableref01_Fact.j0, if_pos rfl]) (Ev.now _)
 unfold constableref01_Fact.f
 refine Ev.bind (ev_rname a ha) ?_
 by_cases h1 : nameP a = true
 ·simp only [if_pos h1]
  by_cases h2 : vs.length ≤ 5
  ·rw [decide_eq_false (show ¬ (vs.length : Int) > 5 by omega)]
   refine Ev.step (fun k => by rw [constableref01_Fact.j0, if_neg (by decide)]) ?_
   have := rfact_loop vs a fv (by omega) vs.length 0 (by omega)
   rw [List.drop_zero] at this
   have e : decide (factP a vs = 0) = vs.all fun v => valP v.f0 v.f1 v.f2 == 0 := by
    rw [Bool.eq_iff_iff, decide_eq_true_eq, fact_zero, List.all_eq_true]
    simp only [beq_iff_eq]
    exact ⟨fun h => h.2.2, fun h => ⟨h1, h2, h⟩⟩
   rw [e]; exact this
  ·rw [decide_eq_true (show (vs.length : Int) > 5 by omega), decide_eq_false (fun h => h2 (fact_zero.1 h).2.1)]
   exact jt
 ·simp only [if_neg h1]
  rw [decide_eq_false (fun h => h1 (fact_zero.1 h).1)]
  exact jt
def rtrP (l : List S58) : Int := if 200 < l.length then 2 else if (l.all fun y => decide (factP y.f0 y.f1 = 0)) = true then 0 else 1
theorem rtrace_loop (l : List S58) (hf : ∀ y ∈ l, fitF y) (hl : l.length ≤ 1000000) : ∀ (m i : Nat), i + m = l.length → Ev (fun k => constableref09_Trace.l0 k l i) (if ((l.drop i).all fun y => decide (factP y.f0 y.f1 = 0)) = true then 0 else 1) := by
 intro m
 induction m with
 | zero =>
  intro i h
  refine Ev.step (fun k => by rw [constableref09_Trace.l0, if_neg (by omega)]) ?_
  rw [List.drop_eq_nil_of_le (by omega)]
  exact Ev.now _
 | succ m ih =>
  intro i h
  have hi : i < l.length := by omega
  have hy := hf l[i] (List.getElem_mem hi)
  refine Ev.step (fun k => by rw [constableref09_Trace.l0, if_pos (by omega), if_pos (by omega), rd58_get hi, show wrap64 ((i : Int) + 1) = ((i + 1 : Nat) : Int) by unfold wrap64; omega]) ?_
  rw [List.drop_eq_getElem_cons hi, List.all_cons]
  refine Ev.bind (ev_rfact hy.1 hy.2.1) ?_
  cases decide (factP l[i].f0 l[i].f1 = 0)
  ·simp only [Bool.false_eq_true, if_false, Bool.false_and]; exact Ev.now _
  ·simp only [if_true, Bool.true_and]; exact ih (i + 1) (by omega)
theorem ev_rtrace {l : List S58} (hf : ∀ y ∈ l, fitF y) (hl : l.length ≤ 1000000) : Ev (fun k => constableref09_Trace.f k l) (rtrP l) := by
 unfold constableref09_Trace.f rtrP
 by_cases h : 200 < l.length
 ·rw [if_pos h]; simp only [if_pos (show (l.length : Int) > 200 by omega)]; exact Ev.now _
 ·rw [if_neg h]; simp only [if_neg (show ¬ (l.length : Int) > 200 by omega)]
  exact rtrace_loop l hf hl l.length 0 (by omega)
theorem trL_zero (l : List S58) : trL l = 0 ↔ ∀ y ∈ l, factP y.f0 y.f1 = 0 := by
 induction l with
 | nil => simp [trL]
 | cons f l ih =>
  rw [trL]
  by_cases h : factP f.f0 f.f1 = 0
  ·rw [if_pos h, ih]; simp [h]
  ·rw [if_neg h]; simp [h]
theorem trP_zero {l : List S58} : trP l = 0 ↔ l.length ≤ 200 ∧ ∀ y ∈ l, factP y.f0 y.f1 = 0 := by
 unfold trP
 by_cases h : 200 < l.length
 ·rw [if_pos h]; simp; omega
 ·rw [if_neg h, trL_zero]; simp; omega
theorem more_wrong {t m : List S58} (h : trP t = 0) (h2 : trP (t ++ m) ≠ 0) (hl : t.length + m.length ≤ 14) : rtrP m ≠ 0 := by
 intro h0
 refine h2 (trP_zero.2 ⟨by simp; omega, fun y hy => ?_⟩)
 rcases List.mem_append.1 hy with hy | hy
 ·exact (trP_zero.1 h).2 y hy
 ·unfold rtrP at h0
  rw [if_neg (by omega)] at h0
  by_cases ha : (m.all fun y => decide (factP y.f0 y.f1 = 0)) = true
  ·exact of_decide_eq_true (List.all_eq_true.1 ha y hy)
  ·rw [if_neg ha] at h0; exact absurd h0 (by decide)
theorem more_left {t m : List S58} (h : trP (t ++ m) = 0) : trP t = 0 := by
 obtain ⟨h1, h2⟩ := trP_zero.1 h
 exact trP_zero.2 ⟨by simp at h1; omega, fun y hy => h2 y (List.mem_append_left _ hy)⟩
end Go.Proofs.YtghommaokdhjmaaGreat.Sat
/- SatWrong, walked by hand: whatever the input, it answers true. -/
namespace Go.Proofs.YtghommaokdhjmaaGreat.Sat
open Go.RowKit Go.Lib Go.Sort Go.Proofs.SymP Go.Proofs.YtghommaokdhjmaaGreatW.PrintWords P FactC IRow Frm SpecM SpecB PSat PSpec CmpF BothB SortStr Str
def HC (z tr : Int) (m s : Bool) (bs r : List S66) (is : Bool) (er : Int) : Prop := (z ≠ 0 ∧ r = [] ∧ is = false ∧ er = z) ∨ (z = 0 ∧ tr ≠ 0 ∧ r = [] ∧ is = false ∧ er = tr) ∨ (z = 0 ∧ tr = 0 ∧ m = false ∧ r = [] ∧ is = false ∧ er = 0) ∨ (z = 0 ∧ tr = 0 ∧ m = true ∧ s = true ∧ r = [] ∧ is = false ∧ er = 0) ∨ (z = 0 ∧ tr = 0 ∧ m = true ∧ s = false ∧ r = bs ∧ is = true ∧ er = 0)
theorem res_ex (z tr : Int) (m s : Bool) (bs : List S66) (hb : bs.length ≤ 100) : ∃ r is er, HC z tr m s bs r is er ∧ r.length ≤ 100 := by
 by_cases hz : z = 0
 ·by_cases ht : tr = 0
  ·cases m
   ·exact ⟨[], false, 0, .inr (.inr (.inl ⟨hz, ht, rfl, rfl, rfl, rfl⟩)), by simp⟩
   ·cases s
    ·exact ⟨bs, true, 0, .inr (.inr (.inr (.inr ⟨hz, ht, rfl, rfl, rfl, rfl, rfl⟩))), hb⟩
    ·exact ⟨[], false, 0, .inr (.inr (.inr (.inl ⟨hz, ht, rfl, rfl, rfl, rfl, rfl⟩))), by simp⟩
  ·exact ⟨[], false, tr, .inr (.inl ⟨hz, ht, rfl, rfl, rfl⟩), by simp⟩
 ·exact ⟨[], false, z, .inl ⟨hz, rfl, rfl, rfl⟩, by simp⟩
theorem ways {z tr1 tr2 : Int} {m s : Bool} {bs r1 r2 : List S66} {is1 is2 : Bool} {er1 er2 : Int} (h1 : HC z tr1 m s bs r1 is1 er1) (h2 : HC z tr2 m s bs r2 is2 er2) (h3 : tr2 = 0 → tr1 = 0) :
  er1 ≠ 0 ∨ (er1 = 0 ∧ er2 ≠ 0 ∧ tr1 = 0 ∧ tr2 ≠ 0) ∨ (z = 0 ∧ tr1 = 0 ∧ er1 = 0 ∧ er2 = 0 ∧ r1 = r2 ∧ is1 = is2 ∧ ((m = false ∧ is1 = false) ∨ (m = true ∧ s = true ∧ is1 = false) ∨ (m = true ∧ s = false ∧ is1 = true ∧ r1 = bs))) := by
 rcases h1 with ⟨a1, a2, a3, a4⟩ | ⟨a1, a2, a3, a4, a5⟩ | ⟨a1, a2, a3, a4, a5, a6⟩ | ⟨a1, a2, a3, a4, a5, a6, a7⟩ | ⟨a1, a2, a3, a4, a5, a6, a7⟩
 ·exact .inl (by rw [a4]; exact a1)
 ·exact .inl (by rw [a5]; exact a2)
 all_goals (
  rcases h2 with ⟨b1, b2, b3, b4⟩ | ⟨b1, b2, b3, b4, b5⟩ | ⟨b1, b2, b3, b4, b5, b6⟩ | ⟨b1, b2, b3, b4, b5, b6, b7⟩ | ⟨b1, b2, b3, b4, b5, b6, b7⟩
  ·exact absurd a1 b1
  ·exact .inr (.inl ⟨by assumption, by rw [b5]; exact b2, a2, b2⟩)
  all_goals simp_all)
theorem long_len {l : List S58} {b : Bool} (e : Ev (fun k => constablelaw25_Long.f k l) b) (hb : b = false) : l.length ≤ 203 := by
 subst hb
 obtain ⟨k, hk⟩ := e.rounds
 rcases Nat.lt_or_ge 203 l.length with h | h
 ·unfold constablelaw25_Long.f at hk
  rw [if_pos (by omega), if_neg (by omega), if_pos (by omega)] at hk
  simp at hk
 ·exact h
section
variable {w : World} {A L : Option Addr} {n c lc : Nat} {l : List S62} {pn an : ByteArray} {ts : List S92}
theorem oneW (h : PatW w A L n c lc l pn an ts) {Y : Option Addr} {yc : Nat} {y : S58} (hy : fitF y) (hY : Kd.C k64 w Y y.f1.length y.f1) (hyc : y.f1.length ≤ yc) {bs : List S66} {m : Bool} (hone : oneP an ts y.f0 y.f1 [] = (bs, m)) : Calls Tryz.prog 28 #[.agg #[.string an, .slice A ts.length c], .agg #[.string y.f0, .slice Y y.f1.length yc], .slice none 0 0] w fun e w' => ∃ V vc, e = .returned (.tuple #[.slice V bs.length vc, .bool m]) ∧ (bs.length ≤ vc ∧ Kd.C k66 w' V bs.length bs) ∧ Go.RowKit.Below w.heap.size w w' := by
 have hc := match_One.calls an A c ts y.f0 Y yc y.f1 none 0 [] bs m w h.hA h.hcap hY hyc ⟨rfl, Nat.zero_le _, fun h => absurd (show 0 < 0 from h) (Nat.lt_irrefl 0)⟩ (Nat.le_refl _) (by unfold match_One.f; rw [if_pos ⟨⟨h.hx.1, h.hx.2.1⟩, ⟨hy.1, hy.2.1⟩, rfl⟩, hone])
 refine hc.mono ?_
 rintro e w' ⟨v, rfl, hR, hb⟩
 obtain ⟨V, vc, rfl, q1, q2⟩ := Kd.R_reads hR
 exact ⟨V, vc, rfl, ⟨q1, q2⟩, hb⟩
theorem one_mono {w2 : World} {bs : List S66} {m : Bool} (e : Ending) (w' : World) (h : ∃ V vc, e = .returned (.tuple #[.slice V bs.length vc, .bool m]) ∧ (bs.length ≤ vc ∧ Kd.C k66 w' V bs.length bs) ∧ Go.RowKit.Below w2.drew.heap.size w2.drew w') : ∃ V vc, e = .returned (.tuple #[.slice V bs.length vc, .bool m]) ∧ (bs.length ≤ vc ∧ Kd.C k66 w' V bs.length bs) ∧ Go.RowKit.Below w2.heap.size w2 w' := by
 obtain ⟨V, vc, h1, h2, h3⟩ := h
 exact ⟨V, vc, h1, h2, (below_drew1 (Go.RowKit.Below.refl _ _)).trans h3⟩
theorem sameB {W : World} {V V2 : Option Addr} {vc vc2 : Nat} {r : List S66} (h1 : r.length ≤ vc) (h2 : Kd.C k66 W V r.length r) (h3 : r.length ≤ vc2) (h4 : Kd.C k66 W V2 r.length r) (hl : r.length ≤ 100) : Calls Tryz.prog 20 #[.slice V r.length vc, .slice V2 r.length vc2] W fun e w' => e = .returned (.bool true) ∧ Go.RowKit.Below W.heap.size W w' := by
 obtain ⟨k, hk⟩ := (ev_binds (a := r) (by omega) r).rounds
 rw [decide_eq_true rfl] at hk
 exact (constablekeep_Binds.calls k V vc r V2 vc2 r _ W h2 h1 h4 h3 hk).mono fun e w' h => ⟨h.1, h.2.below⟩
set_option maxHeartbeats 8000000 in
set_option maxRecDepth 1000000 in
theorem wrong_law {T D : Option Addr} {tn tc mn mc : Nat} {t more : List S58} (i : Int) (hl : NRow w L n lc l) (hA : Kd.C k92 w A ts.length ts) (hcap : ts.length ≤ c) (ht : TRow w T tn tc t) (hm : TRow w D mn mc more) :
  Calls Tryz.prog 6 #[.agg #[.string pn, .string an, .slice A ts.length c, .slice L n lc], .slice T tn tc, .slice D mn mc, .int .i64 i] w fun e w' => e = .returned (.bool true) ∧ Go.RowKit.Below w.heap.size w w' := by
 have hu := Tryz.underlying27
 have hu2 := Tryz.underlying58
 have hu3 := Tryz.underlying25
 obtain ⟨g0, e0, k0⟩ := ev_heavyP pn an ts l
 obtain ⟨g1, e1, k1⟩ := ev_long t
 obtain ⟨g2, e2, k2⟩ := ev_long more
 have G0 : Aside0 (∀ W, Go.RowKit.Below w.heap.size w W → Calls Tryz.prog 10 #[.agg #[.string pn, .string an, .slice A ts.length c, .slice L n lc]] W fun e w' => e = .returned (.bool g0) ∧ Go.RowKit.Below W.heap.size W w') := ⟨fun W hW => by
  have h := hl.below hW
  obtain rfl := hl.len
  obtain ⟨k, hk⟩ := e0.rounds
  exact constablelaw12_HeavyPattern.calls k pn an A c ts L lc l _ W (Kd.C_below hA hW) hcap h.C h.cap hk⟩
 have G1 : Aside0 (∀ W, Go.RowKit.Below w.heap.size w W → Calls Tryz.prog 11 #[.slice T tn tc] W fun e w' => e = .returned (.bool g1) ∧ Go.RowKit.Below W.heap.size W w') := ⟨fun W hW => cLong (ht.below hW) e1⟩
 have G2 : Aside0 (∀ W, Go.RowKit.Below w.heap.size w W → Calls Tryz.prog 11 #[.slice D mn mc] W fun e w' => e = .returned (.bool g2) ∧ Go.RowKit.Below W.heap.size W w') := ⟨fun W hW => cLong (hm.below hW) e2⟩
 have htl := ht.len
 have hml := hm.len
 have htb := ht.C.2.1
 have hmb := hm.C.2.1
 have hb0 : Go.RowKit.Below w.heap.size w (w.alloc (.cells #[.string pn, .string an, .slice A ts.length c, .slice L n lc] 27)) := (Go.RowKit.Below.refl _ w).alloc (Nat.le_refl _) _
 have hL : g1 = false → g2 = false → IntKind.i64.wrap ((tn : Int) + (mn : Int)) = (tn : Int) + (mn : Int) := fun a b => by
  have h1 := long_len e1 a
  have h2 := long_len e2 b
  exact kwrap (by omega) (by omega)
 clear e0 e1 e2
 by_cases hg : g0 = false ∧ g1 = false ∧ g2 = false ∧ tn ≠ 0 ∧ tn + mn ≤ 14
 ·obtain ⟨rfl, rfl, rfl, h4, h5⟩ := hg
  have HQ := k0 rfl
  have HT0 := k1 rfl (by omega)
  have HM0 := k2 rfl (by omega)
  have hft : ∀ y ∈ t, fitF y := fun y hy => fitF_small (HT0 y hy)
  have hfm : ∀ y ∈ more, fitF y := fun y hy => fitF_small (HM0 y hy)
  have HP : PatW w A L n c lc l pn an ts := ⟨hl, fit_small HQ.2.2, hA, hcap, ⟨by have := HQ.2.1.1; show an.size ≤ _; omega, fitT_mem.2 fun x hx => by have := HQ.2.1.2.2 x hx; omega, by have := HQ.2.1.2.1; show ts.length ≤ _; omega⟩, by have := HQ.1; omega⟩
  have d4 : ((tn : Int) == 0) = false := by simp; omega
  have d4' : (tn == 0) = false := by simp; omega
  have d5 : decide (14 < (tn : Int) + (mn : Int)) = false := decide_eq_false (by omega)
  have kw := hL rfl rfl
  clear k0 k1 k2 hL
  have hR := Aside0.mk (And.intro HP (And.intro ht hm))
  have HF := Aside0.mk (And.intro hft hfm)
  clear hl hA ht hm hft hfm HP
  go_enter Tryz.func6, Tryz.ntmps6
  go_upto_region 1 with fail
  refine wp_world (fun V => V.cell? ⟨w.heap.size, 0, none⟩ = some (.string pn) ∧ V.cell? ⟨w.heap.size, 1, none⟩ = some (.string an) ∧ V.cell? ⟨w.heap.size, 2, none⟩ = some (.slice A ts.length c) ∧ V.cell? ⟨w.heap.size, 3, none⟩ = some (.slice L n lc) ∧ Go.RowKit.Below w.heap.size w V) ⟨by simp, by simp, by simp, by simp, hb0⟩ ?_
  clear hb0
  generalize hg0 : w.heap.size = gb
  rintro w0 ⟨z0, z1, z2, z3, hb0⟩
  subst hg0
  have HB := Aside0.mk hb0
  clear hb0
  go_upto_region 4 with (first
   | (go_at_call 10; with_reducible refine (G0.out _ HB.out).mono ?_; rintro e w1 ⟨rfl, hb⟩; replace HB := Aside0.mk (HB.out.trans (hb.mono HB.out.size)); replace z0 := (hb.cell (World.block_lt_of_cell? _ _ z0)).trans z0; replace z1 := (hb.cell (World.block_lt_of_cell? _ _ z1)).trans z1; replace z2 := (hb.cell (World.block_lt_of_cell? _ _ z2)).trans z2; replace z3 := (hb.cell (World.block_lt_of_cell? _ _ z3)).trans z3; clear hb)
   | (go_at_call 11; with_reducible refine (G1.out _ HB.out).mono ?_; rintro e w1 ⟨rfl, hb⟩; replace HB := Aside0.mk (HB.out.trans (hb.mono HB.out.size)); replace z0 := (hb.cell (World.block_lt_of_cell? _ _ z0)).trans z0; replace z1 := (hb.cell (World.block_lt_of_cell? _ _ z1)).trans z1; replace z2 := (hb.cell (World.block_lt_of_cell? _ _ z2)).trans z2; replace z3 := (hb.cell (World.block_lt_of_cell? _ _ z3)).trans z3; clear hb)
   | (go_at_call 11; with_reducible refine (G2.out _ HB.out).mono ?_; rintro e w1 ⟨rfl, hb⟩; replace HB := Aside0.mk (HB.out.trans (hb.mono HB.out.size)); replace z0 := (hb.cell (World.block_lt_of_cell? _ _ z0)).trans z0; replace z1 := (hb.cell (World.block_lt_of_cell? _ _ z1)).trans z1; replace z2 := (hb.cell (World.block_lt_of_cell? _ _ z2)).trans z2; replace z3 := (hb.cell (World.block_lt_of_cell? _ _ z3)).trans z3; clear hb)
   | fail)
  clear G0 G1 G2 kw d5
  obtain ⟨p, hp, hpt⟩ := place i tn (by omega) (by omega)
  rw [hp]
  clear hp
  as_aux_lemma =>
  -- what the two calls of sat.Wrong answer
  obtain ⟨z, hz1, _, hz⟩ := patternG hR.out.1
  have hzk : z = 0 → chkN l = 0 := fun h => by
   have := (hz1 h).1
   unfold rightB at this
   simp at this
   exact this.2.2
  obtain ⟨bs, m, hone⟩ : ∃ bs m, oneP an ts (rd_T58 t (p : Int)).f0 (rd_T58 t (p : Int)).f1 [] = (bs, m) := ⟨_, _, rfl⟩
  have hfy : fitF (rd_T58 t (p : Int)) := by
   have hlt : p < t.length := by omega
   rw [rd58_get hlt]
   exact HF.out.1 _ (List.getElem_mem hlt)
  have hbs := one_fitB hR.out.1.hx.2.1 hfy.2.1 hone
  have hbl := one_len hone
  obtain ⟨s, hs⟩ : ∃ s, semP (evP t bs) l p = s := ⟨_, rfl⟩
  obtain ⟨r1, is1, er1, h1, hr1⟩ := res_ex z (trP t) m s bs hbl
  obtain ⟨r2, is2, er2, h2, hr2⟩ := res_ex z (trP (t ++ more)) m s bs hbl
  have C1 : Aside0 (∀ W, Go.RowKit.Below w.heap.size w W → Calls Tryz.prog 15 #[.agg #[.string pn, .string an, .slice A ts.length c, .slice L n lc], .slice T tn tc, .int .i64 (p : Int)] W fun e w' => (∃ V vc, e = .returned (.tuple #[.slice V r1.length vc, .bool is1, .int .i64 er1]) ∧ r1.length ≤ vc ∧ Kd.C k66 w' V r1.length r1) ∧ Go.RowKit.Below W.heap.size W w') := ⟨fun W hW => wrongG (hR.out.1.below hW) (fun W' hW' => hz W' (hW.trans (hW'.mono hW.size))) hzk (hR.out.2.1.below hW) HF.out.1 (by omega) rfl hpt hone hbs hs h1⟩
  have C2 : Aside0 (∀ W X xc, Go.RowKit.Below w.heap.size w W → TRow W X (tn + mn) xc (t ++ more) → Calls Tryz.prog 15 #[.agg #[.string pn, .string an, .slice A ts.length c, .slice L n lc], .slice X (tn + mn) xc, .int .i64 (p : Int)] W fun e w' => (∃ V vc, e = .returned (.tuple #[.slice V r2.length vc, .bool is2, .int .i64 er2]) ∧ r2.length ≤ vc ∧ Kd.C k66 w' V r2.length r2) ∧ Go.RowKit.Below W.heap.size W w') := ⟨fun W X xc hW hX => wrongG (hR.out.1.below hW) (fun W' hW' => hz W' (hW.trans (hW'.mono hW.size))) hzk hX (fun y hy => (List.mem_append.1 hy).elim (HF.out.1 y) (HF.out.2 y)) (by omega) rfl (by omega) (by rw [rd_more (by omega)]; exact hone) hbs (by rw [sem_more (by omega)]; exact hs) h2⟩
  have hw := ways h1 h2 (fun h => more_left h)
  have HE := Aside0.mk (fun (a : z = 0) (b : trP t = 0) (d : m = true) => (wrong_holds (t := t) (p := p) (hz1 a).1 (hz1 a).2 b (by omega) (by rw [hone, d]) : holdsE l t (p : Int) bs = 0))
  have HW := Aside0.mk hw
  have HO := Aside0.mk (And.intro hone (And.intro hfy (And.intro hbs (And.intro hbl (And.intro hs (And.intro hr1 hr2))))))
  clear hz1 hz hzk hone hfy hbs hbl hs h1 h2 hw hr1 hr2
  go_upto_region 5 with (first
   | (go_at_call 15; with_reducible refine (C1.out _ HB.out).mono ?_; rintro e w1 ⟨⟨V1, vc1, rfl, hv1, hv2⟩, hb⟩; replace HB := Aside0.mk (HB.out.trans (hb.mono HB.out.size)); replace z0 := (hb.cell (World.block_lt_of_cell? _ _ z0)).trans z0; replace z1 := (hb.cell (World.block_lt_of_cell? _ _ z1)).trans z1; replace z2 := (hb.cell (World.block_lt_of_cell? _ _ z2)).trans z2; replace z3 := (hb.cell (World.block_lt_of_cell? _ _ z3)).trans z3; have HV := Aside0.mk (And.intro hv1 hv2); clear hb hv1 hv2)
   | fail)
  clear C1
  refine wp_world (fun V => V.cell? ⟨w.heap.size, 0, none⟩ = some (.string pn) ∧ V.cell? ⟨w.heap.size, 1, none⟩ = some (.string an) ∧ V.cell? ⟨w.heap.size, 2, none⟩ = some (.slice A ts.length c) ∧ V.cell? ⟨w.heap.size, 3, none⟩ = some (.slice L n lc) ∧ Kd.C k66 V V1 r1.length r1 ∧ Go.RowKit.Below w.heap.size w V) ⟨z0, z1, z2, z3, HV.out.2, HB.out⟩ ?_
  have HV1 := Aside0.mk HV.out.1
  clear z0 z1 z2 z3 HB HV
  rintro w5 ⟨z0, z1, z2, z3, hv, hb5⟩
  have HB5 := Aside0.mk hb5
  have HV := Aside0.mk hv
  have hd5 : Go.RowKit.Below w5.heap.size w5 w5.drew := below_drew1 (Go.RowKit.Below.refl _ _)
  have HG := Aside0.mk (World.block_lt_of_cell? w5 _ z0)
  have HT5 : Aside0 (Calls Tryz.prog 13 #[.slice T tn tc] w5.drew fun e w' => ∃ A1 c1, e = .returned (.slice A1 tn c1) ∧ OwnF w' w5.drew.heap.size (.slice A1 tn c1) t ∧ Go.RowKit.Below w5.heap.size w5 w') := ⟨(twinF_calls (hR.out.2.1.below (hb5.trans (hd5.mono hb5.size))) HF.out.1 (by omega)).mono fun e w' ⟨A1, c1, h1, h2, h3⟩ => ⟨A1, c1, h1, h2, hd5.trans h3⟩⟩
  have HM5 := Aside0.mk (hR.out.2.2.below (hb5.trans (hd5.mono hb5.size)))
  clear hb5 hv hd5
  go_region_held3 (fun w' => w'.cell? ⟨w.heap.size, 0, none⟩ = some (.string pn) ∧ w'.cell? ⟨w.heap.size, 1, none⟩ = some (.string an) ∧ w'.cell? ⟨w.heap.size, 2, none⟩ = some (.slice A ts.length c) ∧ w'.cell? ⟨w.heap.size, 3, none⟩ = some (.slice L n lc))
   (first | (refine ⟨?_, ?_, ?_, ?_⟩ <;> assumption) | go_keep)
   (first
    | (go_at_call 13; (with_reducible refine HT5.out.mono ?_); rintro e w6 ⟨A1, c1, rfl, hO, hb⟩; have HL := Aside0.mk hb; have HOF := Aside0.mk hO; replace z0 := (hb.cell (World.block_lt_of_cell? w5 _ z0)).trans z0; replace z1 := (hb.cell (World.block_lt_of_cell? w5 _ z1)).trans z1; replace z2 := (hb.cell (World.block_lt_of_cell? w5 _ z2)).trans z2; replace z3 := (hb.cell (World.block_lt_of_cell? w5 _ z3)).trans z3; clear hb hO)
    | (go_at_call 15; (with_reducible refine (C2.out _ _ _ (HB5.out.trans (HL.out.mono HB5.out.size)) HX.out).mono ?_); rintro e w8 ⟨⟨V2, vc2, rfl, hv1, hv2⟩, hb⟩; replace HL := Aside0.mk (HL.out.trans (hb.mono HL.out.size)); replace z0 := (hb.cell (World.block_lt_of_cell? w7 _ z0)).trans z0; replace z1 := (hb.cell (World.block_lt_of_cell? w7 _ z1)).trans z1; replace z2 := (hb.cell (World.block_lt_of_cell? w7 _ z2)).trans z2; replace z3 := (hb.cell (World.block_lt_of_cell? w7 _ z3)).trans z3; have HV2 := Aside0.mk (And.intro hv1 hv2); clear hb hv1 hv2)
    | ((try go_split_ands); (refine step_appendF (w := w5.drew) (by rfl) (.tmp 60) (.tmp 61) (by rfl) A1 D tn c1 mn mc t more (by rfl) (by rfl) HOF.out hR.out.2.1.len HM5.out (show Go.RowKit.Below w5.drew.heap.size w5.drew w6 from ⟨HL.out.os, HL.out.tape, HL.out.output, HL.out.size, HL.out.block⟩) (by omega) ?_); intro X xc w7 hX hb; have HX := Aside0.mk hX; replace HL := Aside0.mk (HL.out.trans (show Go.RowKit.Below w5.heap.size w6 w7 from hb)); replace z0 := (hb.cell HG.out).trans z0; replace z1 := (hb.cell HG.out).trans z1; replace z2 := (hb.cell HG.out).trans z2; replace z3 := (hb.cell HG.out).trans z3; clear hb hX)
    | fail)
  all_goals go_upto_region 6 with fail
  all_goals (
   refine wp_world (fun V => V.cell? ⟨w.heap.size, 0, none⟩ = some (.string pn) ∧ V.cell? ⟨w.heap.size, 1, none⟩ = some (.string an) ∧ V.cell? ⟨w.heap.size, 2, none⟩ = some (.slice A ts.length c) ∧ V.cell? ⟨w.heap.size, 3, none⟩ = some (.slice L n lc) ∧ Kd.C k66 V V1 r1.length r1 ∧ Kd.C k66 V V2 r2.length r2 ∧ Go.RowKit.Below w.heap.size w V) ⟨z0, z1, z2, z3, Kd.C_below HV.out HL.out, HV2.out.2, HB5.out.trans (HL.out.mono HB5.out.size)⟩ ?_
   have HC1 := Aside0.mk (And.intro HV1.out HV2.out.1)
   clear z0 z1 z2 z3 HB5 HV HG HT5 HM5 HL HOF HX HV2 HV1 C2
   rintro w9 ⟨z0, z1, z2, z3, hv1, hv2, hb9⟩
   have HB := Aside0.mk hb9
   have HV := Aside0.mk (And.intro hv1 hv2)
   clear hb9 hv1 hv2
   as_aux_lemma =>
   have hw := HW.out
   rcases hw with d | ⟨rfl, d, q1, q2⟩ | ⟨q1, q2, rfl, rfl, rfl, rfl, hw⟩
   ·have d1 := beq_false_of_ne d
    have d2 := bne_iff_ne.2 d
    go_wp2_with (first
     | (go_at_call 24; with_reducible refine (wakes_calls _).mono ?_; rintro e w1 ⟨rfl, hb⟩; replace HB := Aside0.mk (HB.out.trans (hb.mono HB.out.size)); clear hb)
     | fail)
    go_ret
    exact ⟨rfl, HB.out⟩
   ·have d2 := bne_iff_ne.2 d
    have hrt := more_wrong q1 q2 (by omega)
    have d3 := beq_false_of_ne hrt
    have CR : Aside0 (∀ W, Go.RowKit.Below w.heap.size w W → Calls Tryz.prog 18 #[.slice D mn mc] W fun e w' => e = .returned (.int .i64 (rtrP more)) ∧ Go.RowKit.Below W.heap.size W w') := ⟨fun W hW => by
     have h := hR.out.2.2.below hW
     obtain rfl := h.len
     obtain ⟨k, hk⟩ := (ev_rtrace HF.out.2 (by omega)).rounds
     exact constableref09_Trace.calls k D mc more _ W h.C h.cap hk⟩
    clear hrt q1 q2
    generalize rtrP more = rt at *
    go_wp2_with (first
     | (go_at_call 18; with_reducible refine (CR.out _ HB.out).mono ?_; rintro e w1 ⟨rfl, hb⟩; replace HB := Aside0.mk (HB.out.trans (hb.mono HB.out.size)); clear hb)
     | (go_at_call 24; with_reducible refine (wakes_calls _).mono ?_; rintro e w1 ⟨rfl, hb⟩; replace HB := Aside0.mk (HB.out.trans (hb.mono HB.out.size)); clear hb)
     | fail)
    go_ret
    exact ⟨rfl, HB.out⟩
   ·obtain ⟨ad, Y, yc, eT, y0, y1, y2, y3⟩ := at_T58 (hR.out.2.1.below HB.out).C (p : Int) (by omega) (by omega)
    have hone := HO.out.1
    have hfy := HO.out.2.1
    have HE2 := Aside0.mk (fun d => HE.out q1 q2 d)
    have HS := Aside0.mk HO.out.2.2.2.2.1
    have HN := Aside0.mk (And.intro HO.out.2.2.1 (And.intro HO.out.2.2.2.1 HO.out.2.2.2.2.2.1))
    clear HO HE HW q1 q2
    rw [show ((p : Int)).toNat * 2 = p * 2 by omega] at y0 y1
    generalize hyy : rd_T58 t (p : Int) = y at *
    clear hyy
    have HY := Aside0.mk (And.intro y3 y2)
    have C3 : Aside0 (∀ W, Go.RowKit.Below w9.heap.size w9 W → Calls Tryz.prog 28 #[.agg #[.string an, .slice A ts.length c], .agg #[.string y.f0, .slice Y y.f1.length yc], .slice none 0 0] W fun e w' => ∃ V vc, e = .returned (.tuple #[.slice V bs.length vc, .bool m]) ∧ (bs.length ≤ vc ∧ Kd.C k66 w' V bs.length bs) ∧ Go.RowKit.Below W.heap.size W w') := ⟨fun W hW => oneW (hR.out.1.below (HB.out.trans (hW.mono HB.out.size))) hfy (Kd.C_below HY.out.1 hW) HY.out.2 hone⟩
    have CB : Aside0 (∀ W, Go.RowKit.Below w9.heap.size w9 W → Calls Tryz.prog 20 #[.slice V1 r1.length vc1, .slice V2 r1.length vc2] W fun e w' => e = .returned (.bool true) ∧ Go.RowKit.Below W.heap.size W w') := ⟨fun W hW => sameB HC1.out.1 (Kd.C_below HV.out.1 hW) HC1.out.2 (Kd.C_below HV.out.2 hW) HN.out.2.2⟩
    have CL : Aside0 (m = true → ∀ W V vc, Go.RowKit.Below w9.heap.size w9 W → bs.length ≤ vc → Kd.C k66 W V bs.length bs → Calls Tryz.prog 14 #[.slice L n lc, .slice T tn tc, .int .i64 (p : Int), .slice V bs.length vc] W fun e w' => e = .returned (.tuple #[.bool s, .int .i64 0]) ∧ Go.RowKit.Below W.heap.size W w') := ⟨fun hmt W V vc hW h1 h2 => by
     have hW2 := HB.out.trans (hW.mono HB.out.size)
     exact cHolds (hR.out.1.hl.below hW2) (hR.out.2.1.below hW2) ⟨rfl, h1, h2⟩ hR.out.1.hf HN.out.1 HF.out.1 (by omega) (by have := HN.out.2.1; omega) (by rw [holdsV_ok (HE2.out hmt), HS.out]) (HE2.out hmt)⟩
    have CS : Aside0 (r1 = bs → ∀ W V vc, Go.RowKit.Below w9.heap.size w9 W → bs.length ≤ vc → Kd.C k66 W V bs.length bs → Calls Tryz.prog 20 #[.slice V1 r1.length vc1, .slice V bs.length vc] W fun e w' => e = .returned (.bool true) ∧ Go.RowKit.Below W.heap.size W w') := ⟨fun e W V vc hW h1 h2 => by
     subst e
     exact sameB HC1.out.1 (Kd.C_below HV.out.1 hW) h1 h2 HN.out.2.2⟩
    have HL := Aside0.mk (Go.RowKit.Below.refl w9.heap.size w9)
    have hq1 : (0 : Int) ≤ (p : Int) := by omega
    have hq2 : (p : Int) < (tn : Int) := by omega
    have htc := hR.out.2.1.cap
    subst eT
    clear hone hfy y2 y3 HY HE2 HS HN HV HC1 hR HF
    rcases hw with ⟨rfl, rfl⟩ | ⟨rfl, rfl, rfl⟩ | ⟨rfl, rfl, rfl, rfl⟩
    all_goals (
     go_upto_region 10 with (first
      | (go_at_call 20; with_reducible refine (CB.out _ HL.out).mono ?_; rintro e w1 ⟨rfl, hb⟩; replace HL := Aside0.mk (HL.out.trans (hb.mono HL.out.size)); replace z1 := (hb.cell (World.block_lt_of_cell? _ _ z1)).trans z1; replace z2 := (hb.cell (World.block_lt_of_cell? _ _ z2)).trans z2; replace z3 := (hb.cell (World.block_lt_of_cell? _ _ z3)).trans z3; replace y0 := (hb.cell (World.block_lt_of_cell? _ _ y0)).trans y0; replace y1 := (hb.cell (World.block_lt_of_cell? _ _ y1)).trans y1; clear hb)
      | fail)
     refine wp_world (fun V => V.cell? ⟨w.heap.size, 1, none⟩ = some (.string an) ∧ V.cell? ⟨w.heap.size, 2, none⟩ = some (.slice A ts.length c) ∧ V.cell? ⟨w.heap.size, 3, none⟩ = some (.slice L n lc) ∧ V.cell? (ad.add (p * 2)) = some (.string y.f0) ∧ V.cell? ⟨(ad.add (p * 2)).block, (ad.add (p * 2)).off + 1, none⟩ = some (.slice Y y.f1.length yc) ∧ Go.RowKit.Below w9.heap.size w9 V) ⟨z1, z2, z3, y0, y1, HL.out⟩ ?_
     clear z0 z1 z2 z3 y0 y1 HL
     rintro w2 ⟨z1, z2, z3, y0, y1, hb2⟩
     have hd2 : Go.RowKit.Below w2.heap.size w2 w2.drew := below_drew1 (Go.RowKit.Below.refl _ _)
     have C3' := Aside0.mk ((C3.out w2.drew (hb2.trans (hd2.mono hb2.size))).mono one_mono)
     have HL := Aside0.mk hb2
     clear hd2 hb2 C3
     go_region_held3 (fun w' => w'.cell? ⟨w.heap.size, 1, none⟩ = some (.string an) ∧ w'.cell? ⟨w.heap.size, 2, none⟩ = some (.slice A ts.length c) ∧ w'.cell? (ad.add (p * 2)) = some (.string y.f0) ∧ w'.cell? ⟨(ad.add (p * 2)).block, (ad.add (p * 2)).off + 1, none⟩ = some (.slice Y y.f1.length yc))
      (first | (refine ⟨?_, ?_, ?_, ?_⟩ <;> assumption) | go_keep)
      (first
       | (go_at_call 28; (with_reducible refine C3'.out.mono ?_); rintro e w3 ⟨V3, vc3, rfl, hV, hb⟩; replace HL := Aside0.mk (HL.out.trans (hb.mono HL.out.size)); have HV3 := Aside0.mk hV; replace z1 := (hb.cell (World.block_lt_of_cell? w2 _ z1)).trans z1; replace z2 := (hb.cell (World.block_lt_of_cell? w2 _ z2)).trans z2; replace z3 := (hb.cell (World.block_lt_of_cell? w2 _ z3)).trans z3; replace y0 := (hb.cell (World.block_lt_of_cell? w2 _ y0)).trans y0; replace y1 := (hb.cell (World.block_lt_of_cell? w2 _ y1)).trans y1; clear hb hV)
       | fail)
     all_goals (
      go_wp2_with (first
       | (go_at_call 14; (with_reducible refine (CL.out (by first | trivial | rfl) _ V3 vc3 HL.out HV3.out.1 HV3.out.2).mono ?_); rintro e w4 ⟨rfl, hb⟩; replace HL := Aside0.mk (HL.out.trans (hb.mono HL.out.size)); replace HV3 := Aside0.mk (And.intro HV3.out.1 (Kd.C_below HV3.out.2 hb)); clear hb)
       | (go_at_call 20; (with_reducible refine (CS.out (by first | trivial | rfl) _ V3 vc3 HL.out HV3.out.1 HV3.out.2).mono ?_); rintro e w5 ⟨rfl, hb⟩; replace HL := Aside0.mk (HL.out.trans (hb.mono HL.out.size)); clear hb)
       | (go_at_call 24; with_reducible refine (wakes_calls _).mono ?_; rintro e w6 ⟨rfl, hb⟩; replace HL := Aside0.mk (HL.out.trans (hb.mono HL.out.size)); clear hb)
       | fail)
      go_ret
      exact ⟨rfl, HB.out.trans (HL.out.mono HB.out.size)⟩)))
 ·have hc : g0 = true ∨ (g0 = false ∧ g1 = true) ∨ (g0 = false ∧ g1 = false ∧ g2 = true) ∨ (g0 = false ∧ g1 = false ∧ g2 = false ∧ ((tn : Int) == 0) = true ∧ (tn == 0) = true) ∨ (g0 = false ∧ g1 = false ∧ g2 = false ∧ ((tn : Int) == 0) = false ∧ (tn == 0) = false ∧ IntKind.i64.wrap ((tn : Int) + (mn : Int)) = (tn : Int) + (mn : Int) ∧ decide (14 < (tn : Int) + (mn : Int)) = true) := by
   cases g0 <;> cases g1 <;> cases g2 <;> simp at hg ⊢
   by_cases h0 : tn = 0
   ·exact .inl h0
   ·exact .inr ⟨h0, hL rfl rfl, by have := hg h0; omega⟩
  clear k0 k1 k2 hl hA ht hm hg hL
  have HB := Aside0.mk hb0
  clear hb0
  rcases hc with rfl | ⟨rfl, rfl⟩ | ⟨rfl, rfl, rfl⟩ | ⟨rfl, rfl, rfl, d4, d4'⟩ | ⟨rfl, rfl, rfl, d4, d4', kw, d5⟩
  all_goals (
   go_enter Tryz.func6, Tryz.ntmps6
   go_wp2_with (first
    | (go_at_call 10; with_reducible refine (G0.out _ HB.out).mono ?_; rintro e w1 ⟨rfl, hb⟩; replace HB := Aside0.mk (HB.out.trans (hb.mono HB.out.size)); clear hb)
    | (go_at_call 11; with_reducible refine (G1.out _ HB.out).mono ?_; rintro e w1 ⟨rfl, hb⟩; replace HB := Aside0.mk (HB.out.trans (hb.mono HB.out.size)); clear hb)
    | (go_at_call 11; with_reducible refine (G2.out _ HB.out).mono ?_; rintro e w1 ⟨rfl, hb⟩; replace HB := Aside0.mk (HB.out.trans (hb.mono HB.out.size)); clear hb)
    | fail)
   go_ret
   exact ⟨rfl, HB.out⟩)
end
end Go.Proofs.YtghommaokdhjmaaGreat.Sat
/- What an argument's reading tells of its cells: whole numbers, texts, Values, Binds, and rows of them. -/
namespace Go.Proofs.YtghommaokdhjmaaGreat.Open
open Go.RowKit Go.Proofs.YtghommaokdhjmaaGreatW.PrintWords P
variable {H : Type} {enc : TypeId × Value → H} {P : Program} {w : World} {base : Nat} {sp : Nat → Bool} {held : Bool}
theorem trod_int {t : TypeId} {k : IntKind} (ht : P.underlying t = some (.int k)) {fuel : Nat} {cs : List Value} {x : DataW H × List MemPlace} (h : DataW.trod enc P w base sp held fuel t cs = some x) : ∃ n, cs = [.int k n] ∧ (Lit.int k n).wf = true := by
 cases fuel with
 | zero => simp [DataW.trod] at h
 | succ n =>
  unfold DataW.trod at h
  rw [ht] at h
  split at h <;> simp_all
theorem trod_string {t : TypeId} (ht : P.underlying t = some .string) {fuel : Nat} {cs : List Value} {x : DataW H × List MemPlace} (h : DataW.trod enc P w base sp held fuel t cs = some x) : ∃ s, cs = [.string s] ∧ s.size ≤ maxLen := by
 cases fuel with
 | zero => simp [DataW.trod] at h
 | succ n =>
  unfold DataW.trod at h
  rw [ht] at h
  split at h <;> simp_all

def Tells (H : Type) (enc : TypeId × Value → H) (P : Program) (base : Nat) (sp : Nat → Bool) (held : Bool) {α : Type} (d : Kd α) (e : TypeId) : Prop :=
 ∀ (w : World) (fuel : Nat) (cs : List Value) (x : DataW H × List MemPlace), DataW.trod enc P w base sp held fuel e cs = some x → ∃ p, d.K w p cs
theorem list_of {α : Type} {Q : Nat → α → Prop} : ∀ (n : Nat), (∀ i, i < n → ∃ p, Q i p) → ∃ l : List α, l.length = n ∧ ∀ j p, l[j]? = some p → Q j p
 | 0, _ => ⟨[], rfl, fun j p h => by simp at h⟩
 | n + 1, h => by
  obtain ⟨l, hl, hq⟩ := list_of n (fun i hi => h i (by omega))
  obtain ⟨p, hp⟩ := h n (by omega)
  refine ⟨l ++ [p], by simp [hl], fun j q hj => ?_⟩
  rcases Nat.lt_trichotomy j n with h1 | h1 | h1
  ·rw [List.getElem?_append_left (by omega)] at hj; exact hq j q hj
  ·subst h1
   rw [List.getElem?_append_right (by omega), hl, Nat.sub_self] at hj
   obtain rfl : p = q := by simpa using hj
   exact hp
  ·rw [List.getElem?_eq_none (by simp; omega)] at hj; cases hj
theorem add_add' (a : Addr) (i j : Nat) : (a.add i).add j = a.add (i + j) := by
 unfold Addr.add
 by_cases hi : i = 0 <;> by_cases hj : j = 0 <;> simp [hi, hj, Nat.add_assoc]
theorem tells_row {α : Type} {d : Kd α} {t e : TypeId} (ht : P.underlying t = some (.slice e)) (hs : P.cellsOf e = d.sz) (hd : Tells H enc P base sp held d e) {fuel : Nat} {cs : List Value} {x : DataW H × List MemPlace}
  (h : DataW.trod enc P w base sp held fuel t cs = some x) : ∃ (A : Option Addr) (c : Nat) (l : List α), cs = [.slice A l.length c] ∧ l.length ≤ c ∧ Kd.C d w A l.length l := by
 rcases DataW.trod_slice ht h with ⟨rfl, _⟩ | ⟨a, len, cap, elems, rest, n, _, rfl, _, _, hl, hcm, hlen, hel, _⟩
 ·exact ⟨none, 0, [], rfl, Nat.le_refl _, rfl, by simp, fun h => absurd h (Nat.lt_irrefl _)⟩
 ·have hex : ∀ i, i < len → ∃ (p : α), ∃ c : List Value, c.length = d.sz ∧ d.K w p c ∧ ∀ j u, c[j]? = some u → w.cell? (a.add (i * d.sz + j)) = some u := by
   intro i hi
   have h1 := hel i hi
   rw [List.getElem?_eq_getElem (by omega), Option.bind_eq_some_iff] at h1
   obtain ⟨c, hc, htr⟩ := h1
   obtain ⟨p, hp⟩ := hd w _ _ _ htr
   obtain ⟨_, hcl, hcell⟩ := World.cells?_some hc
   refine ⟨p, c, by rw [hcl, hs], hp, fun j u hj => ?_⟩
   have hj' : j < P.cellsOf e := by rw [← hcl]; exact (List.getElem?_eq_some_iff.1 hj).1
   rw [← hs, ← add_add', hcell j hj', hj]
  obtain ⟨l, hll, hq⟩ := list_of len hex
  refine ⟨some a, cap, l, by rw [hll], by omega, rfl, by unfold maxLen at hcm; omega, fun _ => ⟨a, rfl, hq⟩⟩

set_option maxRecDepth 100000 in
theorem tells64 : Tells H enc Tryz.prog base sp held k64 64 := by
 intro w fuel cs x h
 obtain ⟨xs, n, _, rfl, hl, hlen, hf⟩ := DataW.trod_struct Tryz.underlying64 h
 have hc : Tryz.prog.cellsOf 64 = 3 := by kernel_rfl
 have h9 : Tryz.prog.cellsOf 9 = 1 := by kernel_rfl
 have h3 : Tryz.prog.cellsOf 3 = 1 := by kernel_rfl
 rw [hc] at hl
 obtain ⟨a, b, c, rfl⟩ : ∃ a b c, cs = [a, b, c] := by
  match cs, hl with
  | [a, b, c], _ => exact ⟨a, b, c, rfl⟩
 obtain ⟨y0, y1, y2, rfl⟩ : ∃ y0 y1 y2, xs = [y0, y1, y2] := by
  match xs, hlen with
  | [y0, y1, y2], _ => exact ⟨y0, y1, y2, rfl⟩
 have g0 : DataW.trod enc Tryz.prog w base sp held n 3 (List.take (Tryz.prog.cellsOf 3) (List.drop 0 [a, b, c])) = some y0 := hf 0 _ rfl
 have g1 : DataW.trod enc Tryz.prog w base sp held n 3 (List.take (Tryz.prog.cellsOf 3) (List.drop 1 [a, b, c])) = some y1 := hf 1 _ rfl
 have g2 : DataW.trod enc Tryz.prog w base sp held n 9 (List.take (Tryz.prog.cellsOf 9) (List.drop 2 [a, b, c])) = some y2 := hf 2 _ rfl
 rw [h3] at g0 g1
 rw [h9] at g2
 obtain ⟨n0, e0, _⟩ := trod_int Tryz.underlying3 g0
 obtain ⟨n1, e1, _⟩ := trod_int Tryz.underlying3 g1
 obtain ⟨s2, e2, _⟩ := trod_string Tryz.underlying9 g2
 obtain rfl : a = _ := by simpa using e0
 obtain rfl : b = _ := by simpa using e1
 obtain rfl : c = _ := by simpa using e2
 exact ⟨⟨n0, n1, s2⟩, k64_mk w _⟩
end Go.Proofs.YtghommaokdhjmaaGreat.Open
/- What an argument's reading tells of its cells: Terms, Facts, Atoms; no condition. -/
namespace Go.Proofs.YtghommaokdhjmaaGreat.Open
open Go.RowKit Go.Proofs.YtghommaokdhjmaaGreatW.PrintWords P
variable {H : Type} {enc : TypeId × Value → H} {P : Program} {w : World} {base : Nat} {sp : Nat → Bool} {held : Bool}
set_option maxRecDepth 100000 in
theorem tells92 : Tells H enc Tryz.prog base sp held k92 92 := by
 intro w fuel cs x h
 obtain ⟨xs, n, _, rfl, hl, hlen, hf⟩ := DataW.trod_struct Tryz.underlying92 h
 have hc : Tryz.prog.cellsOf 92 = 4 := by kernel_rfl
 have h9 : Tryz.prog.cellsOf 9 = 1 := by kernel_rfl
 have h3 : Tryz.prog.cellsOf 64 = 3 := by kernel_rfl
 rw [hc] at hl
 obtain ⟨a, b, c, e, rfl⟩ : ∃ a b c e, cs = [a, b, c, e] := by
  match cs, hl with
  | [a, b, c, e], _ => exact ⟨a, b, c, e, rfl⟩
 obtain ⟨y0, y1, rfl⟩ : ∃ y0 y1, xs = [y0, y1] := by
  match xs, hlen with
  | [y0, y1], _ => exact ⟨y0, y1, rfl⟩
 have g0 : DataW.trod enc Tryz.prog w base sp held n 9 (List.take (Tryz.prog.cellsOf 9) (List.drop 0 [a, b, c, e])) = some y0 := hf 0 _ rfl
 have g1 : DataW.trod enc Tryz.prog w base sp held n 64 (List.take (Tryz.prog.cellsOf 64) (List.drop 1 [a, b, c, e])) = some y1 := hf 1 _ rfl
 rw [h9] at g0
 rw [h3] at g1
 obtain ⟨s0, e0, _⟩ := trod_string Tryz.underlying9 g0
 obtain ⟨v, hv⟩ := tells64 w _ _ _ g1
 obtain rfl : a = _ := by simpa using e0
 have hv' := k64_open hv
 simp only [List.drop_succ_cons, List.drop_zero, List.take_succ_cons, List.take_zero, List.cons.injEq, and_true] at hv'
 obtain ⟨rfl, rfl, rfl⟩ := hv'
 exact ⟨⟨s0, v⟩, k92_mk w _⟩
set_option maxRecDepth 100000 in
theorem tells58 : Tells H enc Tryz.prog base sp held k58 58 := by
 intro w fuel cs x h
 obtain ⟨xs, n, _, rfl, hl, hlen, hf⟩ := DataW.trod_struct Tryz.underlying58 h
 have hc : Tryz.prog.cellsOf 58 = 2 := by kernel_rfl
 have h9 : Tryz.prog.cellsOf 9 = 1 := by kernel_rfl
 have h3 : Tryz.prog.cellsOf 56 = 1 := by kernel_rfl
 rw [hc] at hl
 obtain ⟨a, b, rfl⟩ : ∃ a b, cs = [a, b] := by
  match cs, hl with
  | [a, b], _ => exact ⟨a, b, rfl⟩
 obtain ⟨y0, y1, rfl⟩ : ∃ y0 y1, xs = [y0, y1] := by
  match xs, hlen with
  | [y0, y1], _ => exact ⟨y0, y1, rfl⟩
 have g0 : DataW.trod enc Tryz.prog w base sp held n 9 (List.take (Tryz.prog.cellsOf 9) (List.drop 0 [a, b])) = some y0 := hf 0 _ rfl
 have g1 : DataW.trod enc Tryz.prog w base sp held n 56 (List.take (Tryz.prog.cellsOf 56) (List.drop 1 [a, b])) = some y1 := hf 1 _ rfl
 rw [h9] at g0
 rw [h3] at g1
 obtain ⟨s0, e0, _⟩ := trod_string Tryz.underlying9 g0
 obtain ⟨A, c, l, hcs, hlc, hC⟩ := tells_row Tryz.underlying56 (by kernel_rfl) tells64 g1
 obtain rfl : a = _ := by simpa using e0
 obtain rfl : b = _ := by simpa using hcs
 exact ⟨⟨s0, l⟩, k58_mk w ⟨s0, l⟩ hlc hC⟩
set_option maxRecDepth 100000 in
theorem tells25 : Tells H enc Tryz.prog base sp held k25 25 := by
 intro w fuel cs x h
 obtain ⟨xs, n, _, rfl, hl, hlen, hf⟩ := DataW.trod_struct Tryz.underlying25 h
 have hc : Tryz.prog.cellsOf 25 = 2 := by kernel_rfl
 have h9 : Tryz.prog.cellsOf 9 = 1 := by kernel_rfl
 have h3 : Tryz.prog.cellsOf 23 = 1 := by kernel_rfl
 rw [hc] at hl
 obtain ⟨a, b, rfl⟩ : ∃ a b, cs = [a, b] := by
  match cs, hl with
  | [a, b], _ => exact ⟨a, b, rfl⟩
 obtain ⟨y0, y1, rfl⟩ : ∃ y0 y1, xs = [y0, y1] := by
  match xs, hlen with
  | [y0, y1], _ => exact ⟨y0, y1, rfl⟩
 have g0 : DataW.trod enc Tryz.prog w base sp held n 9 (List.take (Tryz.prog.cellsOf 9) (List.drop 0 [a, b])) = some y0 := hf 0 _ rfl
 have g1 : DataW.trod enc Tryz.prog w base sp held n 23 (List.take (Tryz.prog.cellsOf 23) (List.drop 1 [a, b])) = some y1 := hf 1 _ rfl
 rw [h9] at g0
 rw [h3] at g1
 obtain ⟨s0, e0, _⟩ := trod_string Tryz.underlying9 g0
 obtain ⟨A, c, l, hcs, hlc, hC⟩ := tells_row Tryz.underlying23 (by kernel_rfl) tells92 g1
 obtain rfl : a = _ := by simpa using e0
 obtain rfl : b = _ := by simpa using hcs
 exact ⟨⟨s0, l⟩, k25_mk w ⟨s0, l⟩ hlc hC⟩
end Go.Proofs.YtghommaokdhjmaaGreat.Open
/- What an argument's reading tells of its cells: formulas' nodes; no condition. -/
namespace Go.Proofs.YtghommaokdhjmaaGreat.Open
open Go.RowKit Go.Proofs.YtghommaokdhjmaaGreatW.PrintWords P
variable {H : Type} {enc : TypeId × Value → H} {P : Program} {w : World} {base : Nat} {sp : Nat → Bool} {held : Bool}
set_option maxRecDepth 100000 in
theorem tells62 : Tells H enc Tryz.prog base sp held k62 62 := by
 intro w fuel cs x h
 obtain ⟨xs, n, _, rfl, hl, hlen, hf⟩ := DataW.trod_struct Tryz.underlying62 h
 have hc : Tryz.prog.cellsOf 62 = 5 := by kernel_rfl
 have h9 : Tryz.prog.cellsOf 25 = 2 := by kernel_rfl
 have h3 : Tryz.prog.cellsOf 3 = 1 := by kernel_rfl
 rw [hc] at hl
 obtain ⟨a, b, c, e, f, rfl⟩ : ∃ a b c e f, cs = [a, b, c, e, f] := by
  match cs, hl with
  | [a, b, c, e, f], _ => exact ⟨a, b, c, e, f, rfl⟩
 obtain ⟨y0, y1, y2, y3, rfl⟩ : ∃ y0 y1 y2 y3, xs = [y0, y1, y2, y3] := by
  match xs, hlen with
  | [y0, y1, y2, y3], _ => exact ⟨y0, y1, y2, y3, rfl⟩
 have g0 : DataW.trod enc Tryz.prog w base sp held n 3 (List.take (Tryz.prog.cellsOf 3) (List.drop 0 [a, b, c, e, f])) = some y0 := hf 0 _ rfl
 have g1 : DataW.trod enc Tryz.prog w base sp held n 25 (List.take (Tryz.prog.cellsOf 25) (List.drop 1 [a, b, c, e, f])) = some y1 := hf 1 _ rfl
 have g2 : DataW.trod enc Tryz.prog w base sp held n 3 (List.take (Tryz.prog.cellsOf 3) (List.drop 3 [a, b, c, e, f])) = some y2 := hf 2 _ rfl
 have g3 : DataW.trod enc Tryz.prog w base sp held n 3 (List.take (Tryz.prog.cellsOf 3) (List.drop 4 [a, b, c, e, f])) = some y3 := hf 3 _ rfl
 rw [h3] at g0 g2 g3
 rw [h9] at g1
 obtain ⟨n0, e0, _⟩ := trod_int Tryz.underlying3 g0
 obtain ⟨v, hv⟩ := tells25 w _ _ _ g1
 obtain ⟨n2, e2, _⟩ := trod_int Tryz.underlying3 g2
 obtain ⟨n3, e3, _⟩ := trod_int Tryz.underlying3 g3
 obtain rfl : a = _ := by simpa using e0
 obtain ⟨A, q, hv', hl2, hC⟩ := k25_open hv
 simp only [List.drop_succ_cons, List.drop_zero, List.take_succ_cons, List.take_zero, List.cons.injEq, and_true] at hv'
 obtain ⟨rfl, rfl⟩ := hv'
 obtain rfl : e = _ := by simpa using e2
 obtain rfl : f = _ := by simpa using e3
 exact ⟨⟨n0, v, n2, n3⟩, k62_mk w ⟨n0, v, n2, n3⟩ hl2 hC⟩
end Go.Proofs.YtghommaokdhjmaaGreat.Open
/- What an argument's reading tells of its cells: a pattern; no condition. -/
namespace Go.Proofs.YtghommaokdhjmaaGreat.Open
open Go.RowKit Go.Proofs.YtghommaokdhjmaaGreatW.PrintWords P
variable {H : Type} {enc : TypeId × Value → H} {P : Program} {w : World} {base : Nat} {sp : Nat → Bool} {held : Bool}
set_option maxRecDepth 100000 in
theorem pattern_open {fuel : Nat} {cs : List Value} {x : DataW H × List MemPlace} (h : DataW.trod enc Tryz.prog w base sp held fuel 27 cs = some x) : ∃ (pn an : ByteArray) (A : Option Addr) (c : Nat) (ts : List S92) (L : Option Addr) (lc : Nat) (l : List S62), cs = [.string pn, .string an, .slice A ts.length c, .slice L l.length lc] ∧ ts.length ≤ c ∧ Kd.C k92 w A ts.length ts ∧ l.length ≤ lc ∧ Kd.C k62 w L l.length l := by
 obtain ⟨xs, n, _, rfl, hl, hlen, hf⟩ := DataW.trod_struct Tryz.underlying27 h
 have hc : Tryz.prog.cellsOf 27 = 4 := by kernel_rfl
 have h9 : Tryz.prog.cellsOf 9 = 1 := by kernel_rfl
 have h2 : Tryz.prog.cellsOf 25 = 2 := by kernel_rfl
 have h3 : Tryz.prog.cellsOf 22 = 1 := by kernel_rfl
 rw [hc] at hl
 obtain ⟨a, b, d, e, rfl⟩ : ∃ a b d e, cs = [a, b, d, e] := by
  match cs, hl with
  | [a, b, d, e], _ => exact ⟨a, b, d, e, rfl⟩
 obtain ⟨y0, y1, y2, rfl⟩ : ∃ y0 y1 y2, xs = [y0, y1, y2] := by
  match xs, hlen with
  | [y0, y1, y2], _ => exact ⟨y0, y1, y2, rfl⟩
 have g0 : DataW.trod enc Tryz.prog w base sp held n 9 (List.take (Tryz.prog.cellsOf 9) (List.drop 0 [a, b, d, e])) = some y0 := hf 0 _ rfl
 have g1 : DataW.trod enc Tryz.prog w base sp held n 25 (List.take (Tryz.prog.cellsOf 25) (List.drop 1 [a, b, d, e])) = some y1 := hf 1 _ rfl
 have g2 : DataW.trod enc Tryz.prog w base sp held n 22 (List.take (Tryz.prog.cellsOf 22) (List.drop 3 [a, b, d, e])) = some y2 := hf 2 _ rfl
 rw [h9] at g0
 rw [h2] at g1
 rw [h3] at g2
 obtain ⟨s0, e0, _⟩ := trod_string Tryz.underlying9 g0
 obtain ⟨v, hv⟩ := tells25 w _ _ _ g1
 obtain ⟨L, lc, l, hcs, hlc, hC⟩ := tells_row Tryz.underlying22 (by kernel_rfl) tells62 g2
 obtain ⟨A, q, hv', hl2, hC2⟩ := k25_open hv
 simp only [List.drop_succ_cons, List.drop_zero, List.take_succ_cons, List.take_zero, List.cons.injEq, and_true] at hv'
 obtain ⟨rfl, rfl⟩ := hv'
 obtain rfl : a = _ := by simpa using e0
 obtain rfl : e = _ := by simpa using hcs
 exact ⟨s0, v.f0, A, q, v.f1, L, lc, l, rfl, hl2, hC2, hlc, hC⟩
end Go.Proofs.YtghommaokdhjmaaGreat.Open
/- The row of SatWrong: whatever the input, true; out of the printed walk and the plain law. -/
namespace Go.Proofs.YtghommaokdhjmaaGreat.satWrong
open Go.ChangeShapes Go.WideShapes Go.ChangeAt Go.RowKit Go.Proofs.YtghommaokdhjmaaGreatW.PrintWords P Go.Proofs.YtghommaokdhjmaaGreat.Open
open Go.ChangeMaps (open_string shut_string)
theorem own : ownKnob Tryz.prog.godebug = none := by kernel_rfl
theorem laidOut : laidOutB Tryz.prog = true := by kernel_rfl
set_option maxRecDepth 100000 in
theorem lifted (os : Os) (started : os.Started) (H : Type) (enc : TypeId × Value → H) :
  ReturnsInHanded {} Tryz.checked os 6 .any (Rows.satWrongSpec.pre6 enc Tryz.prog Tryz.f6 Rows.satWrongRow.domain false) (Rows.satWrongSpec.post enc Tryz.prog Tryz.f6 false true false false) := by
 refine returnsInHanded_of_change_sized (C := Tryz.checked) own started (by kernel_rfl) Tryz.func6
  (ChangeSpec.witness6 (enc := enc) (C := Tryz.checked) false ⟨#[], #[.agg #[.string ByteArray.empty, .string ByteArray.empty, .slice none 0 0, .slice none 0 0], .slice none 0 0, .slice none 0 0, .int .i64 0], []⟩ 8 (by kernel_rfl) (by kernel_rfl) (by kernel_rfl) (by kernel_rfl)) ?_
 intro W base args ds gs before hval0 hW hcnd hsz0 _
 have hval : ∀ (j : Nat) t v, Tryz.f6.params[j]? = some t → args[j]? = some v → Value.okWide Tryz.prog W .any base t v := hval0
 have hW' := hW
 obtain ⟨p, q, hA0, hV, rfl, hfz, hnd⟩ := hW
 have hA : DataW.TrodAll enc Tryz.prog W 0 (fun _ => true) true Tryz.f6.params.toList args.toList ds p := hA0
 rw [Tryz.params6] at hA hval
 obtain ⟨v0, vs0, d0, ds0, p0, q0, hargs, rfl, rfl, h0, r0⟩ := trodAll_cons hA
 obtain ⟨v1, vs1, d1, ds1, p1, q1, rfl, rfl, rfl, h1, r1⟩ := trodAll_cons r0
 obtain ⟨v2, vs2, d2, ds2, p2, q2, rfl, rfl, rfl, h2, r2⟩ := trodAll_cons r1
 obtain ⟨v3, vs3, d3, ds3, p3, q3, rfl, rfl, rfl, h3, r3⟩ := trodAll_cons r2
 obtain ⟨rfl, rfl, rfl⟩ := trodAll_nil r3
 obtain rfl : args = #[v0, v1, v2, v3] := by cases args; simp_all
 obtain ⟨rfl, rfl⟩ := trodVars_none hV
 obtain ⟨u0, rfl, _⟩ := okWide_struct Tryz.underlying27 (hval 0 27 v0 rfl rfl)
 have k0 := h0
 have lt0 : ∀ x ∈ p0, x.block < W.heap.size := by obtain ⟨m, hm⟩ := k0; exact DataW.trod_lt m _ _ _ hm
 obtain ⟨pn, an, A, c, ts, L, lc, l, rfl, hq1, hq2, hq3, hq4⟩ : ∃ (pn an : ByteArray) (A : Option Addr) (c : Nat) (ts : List S92) (L : Option Addr) (lc : Nat) (l : List S62), u0 = #[.string pn, .string an, .slice A ts.length c, .slice L l.length lc] ∧ ts.length ≤ c ∧ Kd.C k92 W A ts.length ts ∧ l.length ≤ lc ∧ Kd.C k62 W L l.length l := by
  obtain ⟨fuel, hf⟩ := h0
  obtain ⟨pn, an, A, c, ts, L, lc, l, e, q1, q2, q3, q4⟩ := pattern_open hf
  exact ⟨pn, an, A, c, ts, L, lc, l, Array.toList_inj.1 (by simpa [Value.cells] using e), q1, q2, q3, q4⟩
 obtain ⟨a1, len1, cap1, rfl⟩ := okWide_slice Tryz.underlying28 (hval 1 28 v1 rfl rfl)
 have k1 := h1
 have lt1 : ∀ x ∈ p1, x.block < W.heap.size := by obtain ⟨m, hm⟩ := k1; exact DataW.trod_lt m _ _ _ hm
 obtain ⟨l1, rfl, hc1, hr1⟩ : ∃ l : List S58, len1 = l.length ∧ l.length ≤ cap1 ∧ Kd.C k58 W a1 l.length l := by
  obtain ⟨fuel, hf⟩ := h1
  obtain ⟨A, c, l, hcs, hl, hC⟩ := tells_row Tryz.underlying28 (by kernel_rfl) tells58 hf
  simp [Value.cells] at hcs
  obtain ⟨rfl, rfl, rfl⟩ := hcs
  exact ⟨l, rfl, hl, hC⟩
 obtain ⟨a2, len2, cap2, rfl⟩ := okWide_slice Tryz.underlying28 (hval 2 28 v2 rfl rfl)
 have k2 := h2
 have lt2 : ∀ x ∈ p2, x.block < W.heap.size := by obtain ⟨m, hm⟩ := k2; exact DataW.trod_lt m _ _ _ hm
 obtain ⟨l2, rfl, hc2, hr2⟩ : ∃ l : List S58, len2 = l.length ∧ l.length ≤ cap2 ∧ Kd.C k58 W a2 l.length l := by
  obtain ⟨fuel, hf⟩ := h2
  obtain ⟨A, c, l, hcs, hl, hC⟩ := tells_row Tryz.underlying28 (by kernel_rfl) tells58 hf
  simp [Value.cells] at hcs
  obtain ⟨rfl, rfl, rfl⟩ := hcs
  exact ⟨l, rfl, hl, hC⟩
 obtain ⟨a3, rfl, rfl, rfl, w3⟩ := open_int Tryz.underlying3 (hval 3 3 v3 rfl rfl) h3
 clear hA0 hval0 hsz0
 refine (Sat.wrong_law a3 ⟨rfl, hq3, hq4⟩ hq2 hq1 ⟨rfl, hc1, hr1⟩ ⟨rfl, hc2, hr2⟩).mono fun e W' ⟨he, bel⟩ => ?_
 subst he
 exact ⟨_, rfl, _, _, _, [], _, [], hW', trodAll_mk1 (shut_bool Tryz.underlying4 _), (trodAll_cons_mk (Below.trod laidOut (by kernel_rfl) (of_decide_eq_true (by kernel_rfl)) k0 bel lt0) (trodAll_cons_mk (Below.trod laidOut (by kernel_rfl) (of_decide_eq_true (by kernel_rfl)) k1 bel lt1) (trodAll_cons_mk (Below.trod laidOut (by kernel_rfl) (of_decide_eq_true (by kernel_rfl)) k2 bel lt2) (trodAll_cons_mk (shut_int Tryz.underlying3 w3) trodAll_mk0)))), rfl, bel.frame _, fun h => by cases h⟩
theorem over : Rows.satWrongRow.holds Tryz.pinned (OpenSpec.ofChange Rows.satWrongSpec) :=
 OpenClaim.holds_of_wide 6 Tryz.f6 rfl rfl rfl rfl rfl rfl rfl ⟨rfl, rfl, rfl, rfl, rfl⟩ rfl rfl rfl rfl rfl (by kernel_rfl) Tryz.func6 (by kernel_rfl)
  (of_decide_eq_true (by kernel_rfl)) (by unfold Func.isWrapper; first | (rw [if_pos (by decide +kernel)]; kernel_rfl) | (rw [if_neg (by decide +kernel)]; exact ⟨rfl, rfl⟩))
  (fun os started H enc _ => lifted os started H enc)
theorem proved : Rows.SatWrongSaid := over
end Go.Proofs.YtghommaokdhjmaaGreat.satWrong
namespace Go.Proofs.YtghommaokdhjmaaGreat
theorem satWrong_holds : Rows.SatWrongSaid := satWrong.proved
#print axioms satWrong_holds
end Go.Proofs.YtghommaokdhjmaaGreat
