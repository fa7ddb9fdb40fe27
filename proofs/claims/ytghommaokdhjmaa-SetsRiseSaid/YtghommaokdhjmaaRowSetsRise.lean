/- The row of SetsRise, and what it rests on; no condition. -/
import Derived.Test.YtghommaokdhjmaaSPC2
import Derived.Deep.RegionHeld3
import Derived.ChangeSame
import Derived.ChangeArms
import Derived.Test.YtghommaokdhjmaaRows
import Derived.WalkKit
import Derived.ProofKit
import Derived.OpenShut
import Derived.ShutString
import Derived.ChangeOld
import Derived.Below
import Derived.SizedLaws
namespace Go.Proofs.Ytghommaokdhjmaa.P
open Go.RowKit Go.Proofs.YtghommaokdhjmaaW.PrintWords Go.Proofs.YtghommaokdhjmaaW.PrintLast Go.Proofs.Ytghommaokdhjmaa.Gate
set_option linter.unusedVariables false
set_option linter.unusedSimpArgs false

/-! ### constablekeep_TwinFact: function 77 -/
def constablekeep_TwinFact.f (a0_0 : ByteArray) (l0_1 : List (S24)) : Option (ByteArray × (List (S24))) := if ([] : List (S24)).length + l0_1.length < 4398046511104 then (some (a0_0, (([] : List (S24)) ++ l0_1))) else (none)
set_option maxHeartbeats 8000000 in
set_option maxRecDepth 100000 in
theorem constablekeep_TwinFact.calls (a0_0 : ByteArray) (A0_1 : Option Addr) (c0_1 : Nat) (l0_1 : List (S24)) (r1 : ByteArray) (r2 : List (S24)) (w : World) (hr0_1 : Kd.C k24 w A0_1 l0_1.length l0_1) (hc0_1 : l0_1.length ≤ c0_1) (h : constablekeep_TwinFact.f a0_0 l0_1 = some (r1, r2)) :
  Calls Try.prog 77 #[.agg #[.string a0_0, .slice A0_1 l0_1.length c0_1]] w fun e w' => ∃ v1_ : Value, e = .returned (.agg #[.string r1, v1_]) ∧ Kd.R k24 24 w' w.heap.size (fun _ => True) v1_ r2 ∧ Below w.heap.size w w' := by
 have hu53 := Try.underlying53
 have HR0_1 := Aside0.mk hr0_1
 have HC0_1 := Aside0.mk hc0_1
 clear hr0_1 hc0_1
 have HB := Aside0.mk (Below.refl w.heap.size w)
 have H : (if ([] : List (S24)).length + l0_1.length < 4398046511104 then (some (a0_0, (([] : List (S24)) ++ l0_1))) else (none)) = some (r1, r2) := h
 clear h
 by_cases c2 : ([] : List (S24)).length + l0_1.length < 4398046511104
 ·rw [if_pos c2] at H
  have LMc2 := Aside0.mk c2
  clear c2
  obtain ⟨y554, hy554⟩ : ∃ y_ : List (S24), y_ = (([] : List (S24)) ++ l0_1) := ⟨_, rfl⟩
  replace H : (some (a0_0, y554)) = some (r1, r2) := by first | (rw [hy554]; with_reducible exact H) | (have H2_ := (Option.bind_some _ _).symm.trans H; rw [hy554]; with_reducible exact H2_) | (have H2_ := (Option.bind_some _ _).symm.trans H; with_reducible exact H2_) | with_reducible exact H | (rw [hy554]; exact H) | exact H
  have Ny554 := Aside0.mk hy554
  clear hy554
  simp only [Option.some.injEq, Prod.mk.injEq] at H
  obtain ⟨rfl, rfl⟩ := H
  go_enter Try.func77, Try.ntmps77
  go_wp2_with (first | ((with_reducible refine gate_dst (N := 1) rfl ?_); refine bE (N := 1) (cs := #[.string a0_0, .slice A0_1 l0_1.length c0_1]) (t := 53) ?_; intro gb551 hg w3 hbox hb; have n0_ := Aside0.mk (below_step bB0 hb); have n1_ := Aside0.mk (hbox); have n2_ := Aside0.mk ((by rw [hg]; exact (below_size bB0) : w.heap.size ≤ gb551)); have n3_ := Aside0.mk ((by rw [hg]; exact (below_size bB0) : w.heap.size ≤ gb551)); clear HB; have HB := n0_; have BK551 := n1_; have GW551 := n2_; have GE551 := n3_; clear n0_ n1_ n2_ n3_; clear hb hbox hg) | ((with_reducible refine gate_dst (N := 2) rfl ?_); refine bE (N := 2) (cs := #[.string (⟨#[]⟩ : ByteArray), .slice none 0 0]) (t := 53) ?_; intro gb552 hg w4 hbox hb; have n0_ := Aside0.mk (blk_below (g := gb551) (o := .cells #[.string a0_0, .slice A0_1 l0_1.length c0_1] 53 (0, 0)) (by refine bk ?_; exact BK551.out) hb); have n1_ := Aside0.mk (below_step (bB1 GE551.out) hb); have n2_ := Aside0.mk (hbox); have n3_ := Aside0.mk ((by rw [hg]; exact (below_size (bB1 GE551.out)) : w.heap.size ≤ gb552)); have n4_ := Aside0.mk ((by rw [hg]; exact (below_size (bB1 GE551.out)) : w.heap.size ≤ gb552)); have n5_ := Aside0.mk ((by rw [hg]; exact Nat.ne_of_lt (blk_lt (g := gb551) (o := .cells #[.string a0_0, .slice A0_1 l0_1.length c0_1] 53 (0, 0)) (by refine bk ?_; exact BK551.out)) : gb551 ≠ gb552)); have n6_ := Aside0.mk ((by rw [hg]; exact Nat.ne_of_gt (blk_lt (g := gb551) (o := .cells #[.string a0_0, .slice A0_1 l0_1.length c0_1] 53 (0, 0)) (by refine bk ?_; exact BK551.out)) : gb552 ≠ gb551)); clear BK551; clear HB; have BK551 := n0_; have HB := n1_; have BK552 := n2_; have GW552 := n3_; have GE552 := n4_; have NB551_552 := n5_; have NB552_551 := n6_; clear n0_ n1_ n2_ n3_ n4_ n5_ n6_; clear hb hbox hg; have hnb5 := NB551_552.out; have hnc5 := NB552_551.out; have hcz6_0 : w4.cell? ⟨gb551, 0, none⟩ = some (.string a0_0) := (blk_cell BK551.out 0).trans rfl; have hcz6_1 : w4.cell? ⟨gb551, 1, none⟩ = some (.slice A0_1 l0_1.length c0_1) := (blk_cell BK551.out 1).trans rfl; have hfz6_0 := blk_frozen BK551.out 0; have hfz6_1 := blk_frozen BK551.out 1) | ((with_reducible refine gate_dst (N := 3) rfl ?_); refine bE (N := 3) (cs := #[.string (⟨#[]⟩ : ByteArray), .slice none 0 0]) (t := 53) ?_; intro gb553 hg w7 hbox hb; have n0_ := Aside0.mk (blk_below (g := gb551) (o := .cells #[.string a0_0, .slice A0_1 l0_1.length c0_1] 53 (0, 0)) (by refine bk ?_; exact BK551.out) hb); have n1_ := Aside0.mk (blk_below (g := gb552) (o := .cells #[.string (⟨#[]⟩ : ByteArray), .slice none 0 0] 53 (0, 0)) (by refine bk ?_; exact BK552.out) hb); have n2_ := Aside0.mk (below_step (bB2 GE551.out GE552.out) hb); have n3_ := Aside0.mk (hbox); have n4_ := Aside0.mk ((by rw [hg]; exact (below_size (bB2 GE551.out GE552.out)) : w.heap.size ≤ gb553)); have n5_ := Aside0.mk ((by rw [hg]; exact (below_size (bB2 GE551.out GE552.out)) : w.heap.size ≤ gb553)); have n6_ := Aside0.mk ((by rw [hg]; exact Nat.ne_of_lt (blk_lt (g := gb551) (o := .cells #[.string a0_0, .slice A0_1 l0_1.length c0_1] 53 (0, 0)) (by refine bk ?_; exact BK551.out)) : gb551 ≠ gb553)); have n7_ := Aside0.mk ((by rw [hg]; exact Nat.ne_of_gt (blk_lt (g := gb551) (o := .cells #[.string a0_0, .slice A0_1 l0_1.length c0_1] 53 (0, 0)) (by refine bk ?_; exact BK551.out)) : gb553 ≠ gb551)); have n8_ := Aside0.mk ((by rw [hg]; exact Nat.ne_of_lt (blk_lt (g := gb552) (o := .cells #[.string (⟨#[]⟩ : ByteArray), .slice none 0 0] 53 (0, 0)) (by refine bk ?_; exact BK552.out)) : gb552 ≠ gb553)); have n9_ := Aside0.mk ((by rw [hg]; exact Nat.ne_of_gt (blk_lt (g := gb552) (o := .cells #[.string (⟨#[]⟩ : ByteArray), .slice none 0 0] 53 (0, 0)) (by refine bk ?_; exact BK552.out)) : gb553 ≠ gb552)); clear BK551; clear BK552; clear HB; have BK551 := n0_; have BK552 := n1_; have HB := n2_; have BK553 := n3_; have GW553 := n4_; have GE553 := n5_; have NB551_553 := n6_; have NB553_551 := n7_; have NB552_553 := n8_; have NB553_552 := n9_; clear n0_ n1_ n2_ n3_ n4_ n5_ n6_ n7_ n8_ n9_; clear hb hbox hg; have hnb8 := NB553_551.out; have hnc8 := NB551_553.out; have hnb9 := NB553_552.out; have hnc9 := NB552_553.out; have hcz10_0 : w7.cell? ⟨gb553, 0, none⟩ = some (.string (⟨#[]⟩ : ByteArray)) := (blk_cell BK553.out 0).trans rfl; have hcz10_1 : w7.cell? ⟨gb553, 1, none⟩ = some (.slice none 0 0) := (blk_cell BK553.out 1).trans rfl; have hfz10_0 := blk_frozen BK553.out 0; have hfz10_1 := blk_frozen BK553.out 1; have hcz11_0 : w7.cell? ⟨gb551, 0, none⟩ = some (.string a0_0) := (blk_cell BK551.out 0).trans rfl; have hcz11_1 : w7.cell? ⟨gb551, 1, none⟩ = some (.slice A0_1 l0_1.length c0_1) := (blk_cell BK551.out 1).trans rfl; have hfz11_0 := blk_frozen BK551.out 0; have hfz11_1 := blk_frozen BK551.out 1) | ((with_reducible refine gate_builtin (b := .append) (xs := #[.tmp 8, .tmp 10]) rfl ?_); at_builtin; refine Kd.R_append_rows k24 (w0 := w) w.heap.size rfl (.tmp 8) (.tmp 10) 51 24 (.agg #[(.int .i64 0), (.int .i64 0), (.string ⟨#[]⟩)]) 32 rfl Try.underlying51 info24 rfl (by decide) (by omega) (.slice none 0 0) ([] : List (S24)) l0_1 _ _ _ (fun _ => True) (fun _ => False) rfl rfl ?aO ?aR (fun _ _ h => h) (fun _ h => h.elim) ?aF ?aB ?aS ?aL ?_; (case aR => exact Kd.C_below HR0_1.out (bB3 GE551.out GE552.out GE553.out)); (case aB => exact (bB3 GE551.out GE552.out GE553.out)); (case aF => exact (fun _ _ => trivial)); (case aO => exact ((Kd.R_nil _ _ _ _ (fun _ => True)))); (case aS => exact (below_size (bB3 GE551.out GE552.out GE553.out))); (case aL => have := LMc2.out; omega); intro v555 w12 ho hb hg hat; rw [← Ny554.out] at ho; have n0_ := Aside0.mk (blk_grown (g := gb551) (o := .cells #[.string a0_0, .slice A0_1 l0_1.length c0_1] 53 (0, 0)) (by refine bk ?_; refine blk_far ?_ NB551_553.out _; refine bk ?_; refine blk_far ?_ NB551_553.out _; refine bk ?_; exact BK551.out) hg (by simp [Value.ownBlock])); have n1_ := Aside0.mk (blk_grown (g := gb552) (o := .cells #[.string (⟨#[]⟩ : ByteArray), .slice none 0 0] 53 (0, 0)) (by refine bk ?_; refine blk_far ?_ NB552_553.out _; refine bk ?_; refine blk_far ?_ NB552_553.out _; refine bk ?_; exact BK552.out) hg (by simp [Value.ownBlock])); have n2_ := Aside0.mk (blk_grown (g := gb553) (o := .cells #[.string a0_0, .slice none 0 0] 53 (0, 0)) (by refine bk ?_; refine blk_put (cs := #[.string a0_0, .slice none 0 0]) ?_ 1 _ rfl; refine bk ?_; refine blk_put (cs := #[.string (⟨#[]⟩ : ByteArray), .slice none 0 0]) ?_ 0 _ rfl; refine bk ?_; exact BK553.out) hg (by simp [Value.ownBlock])); have n3_ := Aside0.mk (hb); have n4_ := Aside0.mk (ho); clear BK551; clear BK552; clear BK553; clear HB; have BK551 := n0_; have BK552 := n1_; have BK553 := n2_; have HB := n3_; have HO556 := n4_; clear n0_ n1_ n2_ n3_ n4_; clear ho hb hg hat; obtain ⟨Ao13, co13, eo13⟩ := Kd.R_slice HO556.out; subst eo13; have hcz14_0 : w12.cell? ⟨gb553, 0, none⟩ = some (.string a0_0) := (blk_cell BK553.out 0).trans rfl; have hcz14_1 : w12.cell? ⟨gb553, 1, none⟩ = some (.slice none 0 0) := (blk_cell BK553.out 1).trans rfl; have hfz14_0 := blk_frozen BK553.out 0; have hfz14_1 := blk_frozen BK553.out 1; have hcz15_0 : w12.cell? ⟨gb552, 0, none⟩ = some (.string (⟨#[]⟩ : ByteArray)) := (blk_cell BK552.out 0).trans rfl; have hcz15_1 : w12.cell? ⟨gb552, 1, none⟩ = some (.slice none 0 0) := (blk_cell BK552.out 1).trans rfl; have hfz15_0 := blk_frozen BK552.out 0; have hfz15_1 := blk_frozen BK552.out 1))
  refine bodyPost_ret (results_cell_row rfl _ _ gb552 53 #[.string a0_0, .slice Ao13 y554.length co13] (0, 0) _ rfl (by refine bk ?_; refine blk_put (cs := #[.string a0_0, .slice none 0 0]) ?_ 1 _ rfl; refine bk ?_; refine blk_put (cs := #[.string (⟨#[]⟩ : ByteArray), .slice none 0 0]) ?_ 0 _ rfl; refine bk ?_; refine blk_far ?_ NB552_553.out _; refine bk ?_; exact BK552.out) Try.underlying53 rfl (by kernel_rfl)) rfl ?_
  exact ⟨_, eW, by (with_reducible repeat (first | apply Kd.R_alloc | apply Kd.R_drewN | apply Kd.R_drew)); exact Kd.R_mono (Kd.R_far (p := ⟨gb552, 1, none⟩) (Kd.R_far (p := ⟨gb552, 0, none⟩) (Kd.R_far (p := ⟨gb553, 1, none⟩) (Kd.R_types (Kd.R_types HO556.out BK553.out (by decide)) BK552.out (by decide)) (fun _ hk => hk.1.2) (.slice Ao13 y554.length co13)) (fun _ hk => hk.2) (.string a0_0)) (fun _ hk => hk.2) (.slice Ao13 y554.length co13)) (fun _ hk => trivial), (bB3 GE551.out GE552.out GE553.out)⟩
 ·rw [if_neg c2] at H
  exact absurd H (by simp)

end Go.Proofs.Ytghommaokdhjmaa.P
namespace Go.Proofs.Ytghommaokdhjmaa.P
open Go.RowKit Go.Proofs.YtghommaokdhjmaaW.PrintWords Go.Proofs.YtghommaokdhjmaaW.PrintLast Go.Proofs.Ytghommaokdhjmaa.Gate
set_option linter.unusedVariables false
set_option linter.unusedSimpArgs false

/-! ### constablekeep_TwinFacts: function 41 -/
def constablekeep_TwinFacts.l0 : Nat → List (S53) → List (S53) → Int → Option ((List (S53)))
 | 0, _, _, _ => none
 | k + 1, x0, x3, x4 => if x4 < (x0.length : Int) then (if 0 ≤ x4 then ((constablekeep_TwinFact.f ((rd_T53 x0 x4).f0) ((rd_T53 x0 x4).f1)).bind fun bt558 => (if x3.length < 3518437208883 then (constablekeep_TwinFacts.l0 k x0 (x3 ++ [(⟨bt558.1, bt558.2⟩ : S53)]) (wrap64 (x4 + 1))) else (none))) else (none)) else (some x3)
def constablekeep_TwinFacts.f (k : Nat) (l0 : List (S53)) : Option ((List (S53))) := constablekeep_TwinFacts.l0 k l0 ([] : List (S53)) 0
theorem constablekeep_TwinFacts.mono_l : ∀ k, (∀ y0 y1 y2, LeO (constablekeep_TwinFacts.l0 k y0 y1 y2) (constablekeep_TwinFacts.l0 (k + 1) y0 y1 y2))
 | 0 => fun _ _ _ r h => by simp [constablekeep_TwinFacts.l0] at h
 | k + 1 => by
  have ih0 := constablekeep_TwinFacts.mono_l k
  ·intro y0 y1 y2
   unfold constablekeep_TwinFacts.l0
   repeat' first
   | (with_reducible exact ih0 _ _ _)
   | (with_reducible exact LeO.refl _)
   | (with_reducible exact LeO.none _)
   | (with_reducible refine LeO.ite ?_ ?_)
   | (with_reducible refine LeO.bind ?_ (fun _ => ?_))
theorem constablekeep_TwinFacts.mono : ∀ a0 k, LeO (constablekeep_TwinFacts.f k a0) (constablekeep_TwinFacts.f (k + 1) a0) := by
 intro a0 k
 have ih0 := constablekeep_TwinFacts.mono_l k
 unfold constablekeep_TwinFacts.f
 repeat' first
   | (with_reducible exact ih0 _ _ _)
   | (with_reducible exact LeO.refl _)
   | (with_reducible exact LeO.none _)
   | (with_reducible refine LeO.ite ?_ ?_)
   | (with_reducible refine LeO.bind ?_ (fun _ => ?_))
set_option maxHeartbeats 8000000 in
set_option maxRecDepth 100000 in
theorem constablekeep_TwinFacts.calls (k : Nat) (A0 : Option Addr) (c0 : Nat) (l0 : List (S53)) (r : List (S53)) (w : World) (hr0 : Kd.C k53 w A0 l0.length l0) (hc0 : l0.length ≤ c0) (h : constablekeep_TwinFacts.f k l0 = some r) :
  Calls Try.prog 41 #[.slice A0 l0.length c0] w fun e w' => ∃ v0_ : Value, e = .returned (v0_) ∧ Kd.S k53 53 w' w.heap.size (fun _ => True) v0_ r ∧ Below w.heap.size w w' := by
 have hu53 := Try.underlying53
 have HR0 := Aside0.mk hr0
 have HC0 := Aside0.mk hc0
 clear hr0 hc0
 have HB := Aside0.mk (Below.refl w.heap.size w)
 have H : (constablekeep_TwinFacts.l0 k l0 ([] : List (S53)) 0) = some r := h
 clear h
 have H' := Aside0.mk H
 clear H
 go_enter Try.func41, Try.ntmps41
 go_wp2
 go_loopg [3, 4] k (fun kq v3 v4 w' => ∃ (x3_1 : List (S53)) (x4_1 : Int), v4 = .int .i64 x4_1 ∧ Aside0 (constablekeep_TwinFacts.l0 kq l0 x3_1 x4_1 = some r) ∧ Aside0 (kq ≤ k) ∧ Aside0 (Kd.S k53 53 w' w.heap.size (fun _ => True) v3 x3_1) ∧ Aside0 (Below w.heap.size w w'))
 case atStart => exact ⟨(([] : List (S53))), (0), (by first | rfl | (simp; done) | (simp [*]; done)), H', ⟨Nat.le_refl _⟩, ⟨by first | exact Kd.S_nil _ _ _ _ _ | exact Kd.N_nil _ _ _ _ _ | exact Kd.V_nil _ _ _ _ _ | exact Kd.Q_nil _ _ _ _ _ | exact Kd.R_nil _ _ _ _ _⟩, ⟨bB0⟩⟩
 case round =>
  clear H'
  obtain ⟨x3_1, x4_1, rfl, HA, HK1, HO_3, HB⟩ := hrel
  cases gk with
  | zero => exact absurd HA.out (by simp [constablekeep_TwinFacts.l0])
  | succ k1 =>
   have H := HA.out
   clear HA
   simp only [constablekeep_TwinFacts.l0] at H
   by_cases c2 : x4_1 < (l0.length : Int)
   ·rw [if_pos c2] at H
    have c2b0 : decide (x4_1 < (l0.length : Int)) = true := decide_eq_true c2
    clear c2
    by_cases c3 : 0 ≤ x4_1
    ·rw [if_pos c3] at H
     have c3b0 : decide (0 ≤ x4_1) = true := decide_eq_true c3
     clear c3
     replace H := Option.bind_eq_some_iff.mp H
     obtain ⟨⟨t558, t559⟩, A40, H⟩ := H
     replace H : (if x3_1.length < 3518437208883 then (constablekeep_TwinFacts.l0 k1 l0 (x3_1 ++ [(⟨t558, t559⟩ : S53)]) (wrap64 (x4_1 + 1))) else (none)) = some r := H
     have A4 := Aside0.mk A40
     clear A40
     by_cases c5 : x3_1.length < 3518437208883
     ·rw [if_pos c5] at H
      have LMc5 := Aside0.mk c5
      clear c5
      obtain ⟨y562, hy562⟩ : ∃ y_ : List (S53), y_ = (x3_1 ++ [(⟨t558, t559⟩ : S53)]) := ⟨_, rfl⟩
      replace H : (constablekeep_TwinFacts.l0 k1 l0 y562 (wrap64 (x4_1 + 1))) = some r := by first | (rw [hy562]; with_reducible exact H) | (have H2_ := (Option.bind_some _ _).symm.trans H; rw [hy562]; with_reducible exact H2_) | (have H2_ := (Option.bind_some _ _).symm.trans H; with_reducible exact H2_) | with_reducible exact H | (rw [hy562]; exact H) | exact H
      have Ny562 := Aside0.mk hy562
      clear hy562
      have H' := Aside0.mk H
      clear H
      have p557 : 0 ≤ (x4_1 : Int) := of_decide_eq_true (by first | (with_reducible assumption) | assumption)
      have q557 : x4_1 < (l0.length : Int) := of_decide_eq_true (by first | (with_reducible assumption) | assumption)
      obtain ⟨ad557, A557_1, c557_1, e557, hx557_0, hx557_1, hl557_1, hi557_1⟩ := at_T53 HR0.out x4_1 p557 q557
      cases e557
      have HZ557_1 := Aside0.mk hx557_1
      replace hx557_0 := (HB.out.cell (World.block_lt_of_cell? w _ hx557_0)).trans hx557_0
      replace hx557_1 := (HB.out.cell (World.block_lt_of_cell? w _ hx557_1)).trans hx557_1
      have HR557_1 := Aside0.mk hi557_1
      have HC557_1 := Aside0.mk hl557_1
      clear hi557_1 hl557_1
      replace p557 := eq_true p557
      replace q557 := eq_true q557
      go_wp2_with (first | ((with_reducible refine gate_callee (f := 77) rfl ?_); refine goesL_ (some 16) rfl rfl Try.func77 (by kernel_rfl) rfl #[.agg #[.string ((rd_T53 l0 x4_1).f0), .slice A557_1 ((rd_T53 l0 x4_1).f1).length c557_1]] rfl aG ?_; (with_reducible refine (constablekeep_TwinFact.calls ((rd_T53 l0 x4_1).f0) _ _ ((rd_T53 l0 x4_1).f1) t558 t559 _ ?side1 ?side2 A4.out).mono ?_); (case side1 => exact sC (Kd.C_below HR557_1.out HB.out)); (case side2 => exact HC557_1.out); rintro e w6 ⟨v560, rfl, ho0, hb⟩; refine ⟨_, rfl, ?_⟩; have n0_ := Aside0.mk (Kd.S_elder' (by (with_reducible repeat (first | apply Kd.S_alloc | apply Kd.S_drewN | apply Kd.S_drew)); exact HO_3.out) (Kd.R_base ho0) hb); have n1_ := Aside0.mk (Kd.R_lower ho0 (below_size bB0)); have n2_ := Aside0.mk (below_step bB0 hb); clear HO_3; clear HB; have HO_3 := n0_; have HO561 := n1_; have HB := n2_; clear n0_ n1_ n2_; (try clear hb); (try clear hb2); (try clear hk); (try clear hi); (try clear ho0); obtain ⟨Ao8, co8, eo8⟩ := Kd.R_slice HO561.out; subst eo8) | ((with_reducible refine gate_builtin (b := .append) (xs := #[.tmp 11, .tmp 17]) rfl ?_); at_builtin; refine Kd.S_append k53 (w0 := w) w.heap.size rfl (.tmp 11) (.tmp 17) 46 53 (.agg #[(.string ⟨#[]⟩), (.slice none 0 0)]) 40 rfl Try.underlying46 info53 rfl (by decide) (by omega) u3 x3_1 (⟨t558, t559⟩ : S53) [.string t558, .slice Ao8 t559.length co8] (fun _ => True) (fun k_ => some k_ = (.slice Ao8 t559.length co8 : Value).ownBlock) rfl rfl ?aP (fun k_ hk_ => ((Kd.R_mono (ok' := fun k_ => ((fun _ => True)) k_ ∧ some k_ ≠ (u3 : Value).ownBlock) (Kd.R_apart' (HO561.out) (Kd.S_typed HO_3.out) (by decide)) (fun k_ hk => ⟨trivial, hk.2⟩))).1 k_ hk_.symm) ?aF ?aO ?aB ?aS ?aL ?_; (case aP => exact k53_mkM _ _ _ (⟨t558, t559⟩ : S53) (Kd.R_mono (Kd.R_tight rfl (Kd.R_mono (ok' := fun k_ => ((fun _ => True)) k_ ∧ some k_ ≠ (u3 : Value).ownBlock) (Kd.R_apart' (HO561.out) (Kd.S_typed HO_3.out) (by decide)) (fun k_ hk => ⟨trivial, hk.2⟩))) (fun _ h_ => h_))); (case aB => exact bB0); (case aF => exact (fun _ _ => trivial)); (case aO => exact (by (with_reducible repeat (first | apply Kd.S_alloc | apply Kd.S_drewN | apply Kd.S_drew)); exact Kd.S_mono HO_3.out (fun k_ hk => ⟨trivial, fun e_ => hk.2 e_⟩))); (case aS => exact (below_size bB0)); (case aL => have := LMc5.out; omega); intro v563 w7 ho hb hg hat; rw [← Ny562.out] at ho; have n0_ := Aside0.mk (hb); have n1_ := Aside0.mk (ho); clear HB; clear HO_3; clear HO561; have HB := n0_; have HO564 := n1_; clear n0_ n1_; clear ho hb hg hat))
      go_roundg k1
      case measure => have := HK1.out; omega
      case rel => exact ⟨(y562), (wrap64 (x4_1 + 1)), (by first | rfl | (simp; done) | (simp [*]; done)), H', ⟨by have := HK1.out; omega⟩, ⟨by (with_reducible repeat (first | apply Kd.S_alloc | apply Kd.S_drewN | apply Kd.S_drew)); exact HO564.out⟩, ⟨bB0⟩⟩
     ·rw [if_neg c5] at H
      exact absurd H (by simp)
    ·rw [if_neg c3] at H
     exact absurd H (by simp)
   ·rw [if_neg c2] at H
    have c2b0 : decide (x4_1 < (l0.length : Int)) = false := decide_eq_false c2
    clear c2
    obtain rfl := Option.some.inj H
    go_wp2
    go_ret
    exact ⟨_, eW, by (with_reducible repeat (first | apply Kd.S_alloc | apply Kd.S_drewN | apply Kd.S_drew)); exact HO_3.out, bB0⟩

end Go.Proofs.Ytghommaokdhjmaa.P
/- What SetsRise leans on beside the plain laws of sets: a set's two first facts exchanged, or its first one twice, is no set; a row's elements put behind another one's, read. -/
set_option linter.unusedVariables false
set_option linter.unusedSimpArgs false
namespace Go.Proofs.Ytghommaokdhjmaa.PRise
open Go.RowKit Go.Lib Go.Sort Go.Proofs.SymP Go.Proofs.YtghommaokdhjmaaW.PrintWords Go.Proofs.Ytghommaokdhjmaa.P Go.Proofs.Ytghommaokdhjmaa.Str Go.Proofs.Ytghommaokdhjmaa.CmpF Go.Proofs.Ytghommaokdhjmaa.Fct Go.Proofs.Ytghommaokdhjmaa.FactC Go.Proofs.Ytghommaokdhjmaa.SetsW Go.Proofs.Ytghommaokdhjmaa.PSets Go.Proofs.Ytghommaokdhjmaa.RefS
/-! ### An order that answers -1, 0 or 1 -/
theorem unit_ordI (a b : Int) : ordI a b = -1 ∨ ordI a b = 0 ∨ ordI a b = 1 := by unfold ordI; split <;> (try split) <;> simp
theorem unit_cb : ∀ a b : List UInt8, Lib.compareBytes a b = -1 ∨ Lib.compareBytes a b = 0 ∨ Lib.compareBytes a b = 1 := by
  intro a
  induction a with
  | nil => intro b; cases b <;> simp [Lib.compareBytes]
  | cons x a ih =>
    intro b
    cases b with
    | nil => simp [Lib.compareBytes]
    | cons y b =>
      simp only [Lib.compareBytes]
      split
      · simp
      · split
        · simp
        · exact ih b
theorem unit_cmpS (a b : ByteArray) : cmpS a b = -1 ∨ cmpS a b = 0 ∨ cmpS a b = 1 := unit_cb _ _
theorem unit_orL : ∀ l : List Int, (∀ x ∈ l, x = -1 ∨ x = 0 ∨ x = 1) → orL l = -1 ∨ orL l = 0 ∨ orL l = 1
  | [], _ => by simp [orL]
  | x :: l, h => by
    unfold orL
    split
    · exact h x List.mem_cons_self
    · exact unit_orL l (fun y hy => h y (List.mem_cons_of_mem _ hy))
theorem unit_cmpV (x y : S24) : cmpV x y = -1 ∨ cmpV x y = 0 ∨ cmpV x y = 1 := unit_orL _ (by
  intro z hz
  simp only [List.mem_cons, List.not_mem_nil, or_false] at hz
  rcases hz with rfl | rfl | rfl
  · exact unit_ordI _ _
  · exact unit_ordI _ _
  · exact unit_cmpS _ _)
theorem unit_cmpL : ∀ l m : List S24, compareL l m = -1 ∨ compareL l m = 0 ∨ compareL l m = 1
  | [], [] => by simp [compareL]
  | [], _ :: _ => by simp [compareL]
  | _ :: _, [] => by simp [compareL]
  | x :: l, y :: m => by
    rw [compareL]
    split
    · exact unit_cmpL l m
    · exact unit_cmpV x y
theorem unit_cf (x y : S53) : cf53 x y = -1 ∨ cf53 x y = 0 ∨ cf53 x y = 1 := unit_orL _ (by
  intro z hz
  simp only [List.mem_cons, List.not_mem_nil, or_false] at hz
  rcases hz with rfl | rfl | rfl
  · exact unit_cmpS _ _
  · exact unit_ordI _ _
  · exact unit_cmpL _ _)
theorem cf_less {x y : S53} (h : cf53 x y < 0) : cf53 x y = -1 := by have := unit_cf x y; omega
/-! ### No sets -/
theorem turned_no {x y : S53} {l : List S53} (h : IsSet (x :: y :: l)) : chkF (y :: x :: l) = 1 := chkF_ne fun h2 => by
  have h3 := (List.pairwise_cons.1 h.2).1 y List.mem_cons_self
  have h4 := (List.pairwise_cons.1 h2.2).1 x List.mem_cons_self
  have := ord53.swap x y
  omega
theorem twice_no (x : S53) (l : List S53) : chkF (x :: x :: l) = 1 := chkF_ne fun h2 => by
  have h4 := (List.pairwise_cons.1 h2.2).1 x List.mem_cons_self
  rw [ord53.self] at h4
  omega
theorem put_no {l : List S53} {y : S53} (hl : fitL l = true) (hy : fitX y = true) (h : chkF l = 1) : sets_Put.f l y.f0 y.f1 = some ([], 1) := by
  unfold sets_Put.f
  rw [if_pos ⟨hl, hy⟩]
  have : ¬ chk2 l [y] = 0 := by
    unfold chk2
    rw [if_neg (fun h2 => by rw [h] at h2; exact absurd h2.1 (by decide))]
    decide
  show some (if chk2 l [y] = 0 then (setO cf53 (l ++ [y]), (0 : Int)) else ([], 1)) = _
  rw [if_neg this]
theorem both_no {l m : List S53} (hl : fitL l = true) (hm : fitL m = true) (h : chkF m = 1) : sets_Both.f l m = some ([], 1) := by
  unfold sets_Both.f
  rw [if_pos ⟨hl, hm⟩]
  have : ¬ chk2 l m = 0 := by
    unfold chk2
    rw [if_neg (fun h2 => by rw [h] at h2; exact absurd h2.2 (by decide))]
    decide
  rw [if_neg this]
/-! ### Twins -/
theorem twinF_loop (l : List S53) (hf : ∀ x ∈ l, x.f1.length ≤ 1000000) (hl : l.length ≤ 1000000) : ∀ (m i : Nat), i + m = l.length → Ev (fun k => constablekeep_TwinFacts.l0 k l (l.take i) i) l := by
  intro m
  induction m with
  | zero =>
    intro i h
    refine Ev.step (fun k => by rw [constablekeep_TwinFacts.l0, if_neg (by omega)]) ?_
    rw [List.take_of_length_le (by omega)]
    exact Ev.now _
  | succ m ih =>
    intro i h
    have hi : i < l.length := by omega
    have hx := hf l[i] (List.getElem_mem hi)
    have ht : constablekeep_TwinFact.f (rd_T53 l i).f0 (rd_T53 l i).f1 = some (l[i].f0, l[i].f1) := by
      rw [rd53_get hi]
      unfold constablekeep_TwinFact.f
      rw [if_pos (by simp only [List.length_nil]; omega)]
      simp
    refine Ev.step (f := fun k => constablekeep_TwinFacts.l0 k l (l.take (i + 1)) ((i + 1 : Nat) : Int)) (fun k => ?_) (ih (i + 1) (by omega))
    rw [constablekeep_TwinFacts.l0, if_pos (by omega), if_pos (by omega), ht]
    simp only [Option.bind_some]
    rw [if_pos (by rw [List.length_take]; omega), show l.take i ++ [(⟨l[i].f0, l[i].f1⟩ : S53)] = l.take (i + 1) by rw [List.take_succ_eq_append_getElem hi], w64s (by omega)]
theorem twinF_ev (l : List S53) (h : fitL l = true) : Ev (fun k => constablekeep_TwinFacts.f k l) l := by
  have h2 := fitL_F h
  have h := twinF_loop l (fitF_mem.1 h2.1) (by omega) l.length 0 (by omega)
  simpa only [constablekeep_TwinFacts.f, List.take_zero, Int.natCast_zero] using h
/-! ### A row's elements put behind another one's, read -/
theorem appendC {W0 W : World} (b : Nat) (u : Value) (xs ys : List S53) (A : Option Addr) (c : Nat) (hu : Kd.S k53 53 W b (fun _ => True) u xs) (hC : Kd.C k53 W0 A ys.length ys) (hW : Go.RowKit.Below W0.heap.size W0 W) (hb0 : W0.heap.size ≤ b) (hb : b ≤ W.heap.size) (hl : xs.length + ys.length ≤ 1000000) (hy : 0 < ys.length) :
    ∃ A' c' w', (∀ ty, (Builtin.append_ #[46, 46] ty #[u, .slice A ys.length c]).run Try.prog W = .ok (.slice A' (xs ++ ys).length c') w') ∧ Row w' A' (xs ++ ys).length c' (xs ++ ys) ∧ Go.RowKit.Below b W w' := by
  obtain ⟨i, hi, hz, hsz, hby⟩ := infoF
  have ht : Try.prog.underlying 46 = some (.slice 53) := SortF.lays.tS
  obtain ⟨_, hu0, ui, uo, ur⟩ := hu
  rw [List.length_zipIdx] at uo
  obtain ⟨ad, rfl, _⟩ := hC.2.2 hy
  obtain ⟨news, hnr, hnc⟩ := ReadsRow.inner_ hC
  have hnl : news.length = ys.length * 2 := hnr.1
  have hone : ∀ x ∈ news, x.oneCell' = true := by
    intro x hx
    obtain ⟨j, hj, rfl⟩ := List.getElem_of_mem hx
    obtain ⟨p, hp⟩ : ∃ p, ys[j / 2]? = some p := ⟨_, List.getElem?_eq_getElem (by omega)⟩
    refine k53.K_one (hnr.2 _ p hp) _ ?_
    show news[j] ∈ (news.drop (j / 2 * 2)).take 2
    rw [List.mem_iff_getElem?]
    refine ⟨j % 2, ?_⟩
    rw [List.getElem?_take, if_pos (Nat.mod_lt _ (by decide)), List.getElem?_drop, show j / 2 * 2 + j % 2 = j by omega, List.getElem?_eq_getElem hj]
  obtain ⟨u', w', hr, ho, hg, _, hat⟩ := run_append_own_at (P := Try.prog) W b 46 0 53 i _ 2 40 ht hi hz hsz hby (by rfl) (by decide) u xs.length ui uo ad ys.length c news hnl (fun j v hv => (hW.cell (World.block_lt_of_cell? W0 _ (hnc j v hv))).trans (hnc j v hv)) hone (by unfold maxLen; omega) (by omega) hb
  have hbw : Go.RowKit.Below b W w' := (Go.RowKit.Below.refl b W).grown hg hb (fun k hk => (uo.lt k hk).1)
  have hxs : Reps (k53.K w') 2 xs ui := ⟨uo.1, fun j p hj => by
    have hM : k53.M W b _ p ((ui.drop (j * 2)).take 2) := ur.2 j (p, j) (Kd.zip_at hj)
    exact k53.K_of_M (Kd.M_grown hM hg (fun k hk => hk.1.2))⟩
  have hys : Reps (k53.K w') 2 ys news := hnr.imp_ (fun p cs hp => k53.K_below (hW.trans (hbw.mono hb0)) hp)
  obtain ⟨A', c', rfl, hR⟩ := own_reads_row ho (Kd.reps_append hxs hys) (List.length_append)
  have hcap : xs.length + ys.length ≤ c' := own_le ho
  rw [List.length_append]
  exact ⟨A', c', w', fun ty => hr, ⟨hcap, hR⟩, hbw⟩
end Go.Proofs.Ytghommaokdhjmaa.PRise
/- SetsRise: the law's own walk: it answers true, whatever the list. -/
set_option linter.unusedVariables false
set_option linter.unusedSimpArgs false
namespace Go.Proofs.Ytghommaokdhjmaa.Rise
open Go.Shelf Go.RowKit Go.Lib Go.Sort Go.Proofs.SymP Go.Proofs.YtghommaokdhjmaaW.PrintWords Go.Proofs.Ytghommaokdhjmaa.P Go.Proofs.Ytghommaokdhjmaa.Str Go.Proofs.Ytghommaokdhjmaa.CmpF Go.Proofs.Ytghommaokdhjmaa.Fct Go.Proofs.Ytghommaokdhjmaa.FactC Go.Proofs.Ytghommaokdhjmaa.SetsW Go.Proofs.Ytghommaokdhjmaa.PSets Go.Proofs.Ytghommaokdhjmaa.RefS Go.Proofs.Ytghommaokdhjmaa.PRise
/-- In every later world the function answers so. -/
theorem wak (w W : World) (hW : Go.RowKit.Below w.heap.size w W) : Calls Try.prog 31 #[] W fun e w' => e = .returned (.bool true) ∧ Go.RowKit.Below w.heap.size w w' := (constablelaw04_wakes.calls true W rfl).mono fun e w' ⟨he, hb⟩ => ⟨he, hW.trans (hb.mono hW.size)⟩
set_option maxHeartbeats 4000000 in
set_option maxRecDepth 1000000 in
theorem rise_many (A0 : Option Addr) (c0 : Nat) (l0 : List (S53)) (w : World) (hr0 : Kd.C k53 w A0 l0.length l0) (hc0 : l0.length ≤ c0) (h : Ev (fun k => constablelaw03_Many.f k l0) true) :
    Calls Try.prog 11 #[.slice A0 l0.length c0] w fun e w' => e = .returned (.bool true) ∧ Go.RowKit.Below w.heap.size w w' := by
  obtain ⟨k, hk⟩ := h.rounds
  have hm := constablelaw03_Many.calls k A0 c0 l0 true w hr0 hc0 hk
  clear hr0 hc0 h hk
  generalize l0.length = n0 at *
  go_enter Try.func11, Try.ntmps11
  go_wp2_with (go_at_call 29; with_reducible refine hm.mono ?_; rintro e w1 ⟨rfl, hb⟩)
  go_ret
  exact ⟨rfl, hb⟩
set_option maxHeartbeats 4000000 in
set_option maxRecDepth 1000000 in
theorem rise_wrong (A0 : Option Addr) (c0 : Nat) (l0 : List (S53)) (w : World) (hr0 : Kd.C k53 w A0 l0.length l0) (hc0 : l0.length ≤ c0) (h : Ev (fun k => constablelaw03_Many.f k l0) false) (hl : fitL l0 = true) (hw : l0.any wrongF = true) :
    Calls Try.prog 11 #[.slice A0 l0.length c0] w fun e w' => e = .returned (.bool true) ∧ Go.RowKit.Below w.heap.size w w' := by
  obtain ⟨k, hk⟩ := h.rounds
  have hm := constablelaw03_Many.calls k A0 c0 l0 false w hr0 hc0 hk
  have hO : Aside0 (∀ W, Go.RowKit.Below w.heap.size w W → Calls Try.prog 30 #[.slice A0 l0.length c0] W fun e w' => ∃ A c, e = .returned (.tuple #[.slice A 0 c, .int .i64 1]) ∧ Go.RowKit.Below w.heap.size w w') := ⟨fun W hW => by
    refine (sets_Of.calls A0 c0 l0 [] 1 W (Kd.C_below hr0 hW) hc0 (by unfold sets_Of.f; rw [if_pos hl, if_pos hw])).mono ?_
    rintro e w' ⟨v, rfl, hS, hb⟩
    obtain ⟨A, c, rfl, _⟩ := Row.of hS
    exact ⟨A, c, rfl, hW.trans (hb.mono hW.size)⟩⟩
  have hK := Aside0.mk (wak w)
  clear hr0 hc0 h hk hl hw
  generalize l0.length = n0 at *
  go_enter Try.func11, Try.ntmps11
  go_wp2_with (first | (go_at_call 29; with_reducible refine hm.mono ?_; rintro e w1 ⟨rfl, hb⟩; have HB := Aside0.mk hb; clear hb hm) | (go_at_call 30; with_reducible refine (hO.out _ HB.out).mono ?_; rintro e w2 ⟨A, c, rfl, hb2⟩; have HB2 := Aside0.mk hb2; clear hb2) | (go_at_call 31; with_reducible refine (hK.out _ HB2.out).mono ?_; rintro e w3 ⟨rfl, hb3⟩))
  go_ret
  exact ⟨rfl, hb3⟩
theorem swap_list {α : Type} [Inhabited α] (a b : α) (l : List α) : (swp (a :: b :: l).toArray 0 1).toList = b :: a :: l := by simp [swp]
theorem swap_row {w3 w4 : World} {base g cap n : Nat} {cur : Array Value} {f : Nat → Nat} {L : List (FE w3 base (fun k => True ∧ k ≠ g) f)} {x y : S53} {q : List S53} (hLx : L.map (·.x) = x :: y :: q) (hLi : (L.map (·.i)).Nodup) (hLn : L.length = n) (hg0 : base ≤ g) (hg1 : g < w3.heap.size)
    (hgc : w3.heap[g]? = some (.cells cur 53 (0, 0))) (hn1 : n ≤ cap) (hn2 : cap ≤ maxLen) (hcs : cur.size = cap * 2) (hS : SWK FE.enc 2 w3 g 0 (swp L.toArray 0 1) w4) : Row w4 (some ⟨g, 0, none⟩) n cap (y :: x :: q) ∧ Go.RowKit.Below base w3 w4 := by
  refine ⟨?_, below_swk hS hg0 hg1⟩
  obtain ⟨e0, L1, rfl⟩ : ∃ e0 L1, L = e0 :: L1 := by cases L with | nil => cases hLx | cons e0 L1 => exact ⟨e0, L1, rfl⟩
  obtain ⟨e1, L2, rfl⟩ : ∃ e1 L2, L1 = e1 :: L2 := by cases L1 with | nil => cases hLx | cons e1 L2 => exact ⟨e1, L2, rfl⟩
  simp only [List.map_cons, List.cons.injEq] at hLx
  obtain ⟨rfl, rfl, rfl⟩ := hLx
  have hsw : (swp (e0 :: e1 :: L2).toArray 0 1).size = n := by rw [size_swp]; exact hLn
  obtain ⟨cur', hg', hs', hF'⟩ := flat_swk hS hgc (by rw [hsw, hcs]; exact Nat.mul_le_mul_right _ hn1)
  have hl : (e1 :: e0 :: L2).length = n := by rw [← hLn]; rfl
  have how := own_shut (e := 53) enc_len (by decide) hg' hg0 (hs'.trans hcs) hn2 hF' (e1 :: e0 :: L2) (by rw [swap_list]; exact List.prefix_refl _) (by omega)
  have hnd : ((e1 :: e0 :: L2).map (·.i)).Nodup := ((List.Perm.swap e0 e1 L2).map (·.i)).nodup_iff.2 hLi
  have hS := row_S (W := w4) (ok' := fun _ => True) hnd (fun k hk hlt => swk_away hS k hlt hk.2) how (fun _ _ => trivial) (fun k hk => ⟨trivial, fun e => hk.2 (by simpa [Value.ownBlock] using e)⟩)
  obtain ⟨A5, c5, e5, hR5⟩ := Row.of hS
  have hl5 : ((e1 :: e0 :: L2).map (·.x)).length = n := by rw [List.length_map]; exact hl
  injection e5 with e5 e6 e7
  rw [hl5] at hR5
  subst e5 e7
  exact hR5
set_option maxHeartbeats 8000000 in
set_option maxRecDepth 1000000 in
theorem rise_main (A0 : Option Addr) (c0 : Nat) (l0 : List (S53)) (w : World) (hr0 : Kd.C k53 w A0 l0.length l0) (hc0 : l0.length ≤ c0) (h : Ev (fun k => constablelaw03_Many.f k l0) false) (h60 : l0.length ≤ 60) (hl : fitL l0 = true) (hw : l0.any wrongF = false) :
    Calls Try.prog 11 #[.slice A0 l0.length c0] w fun e w' => e = .returned (.bool true) ∧ Go.RowKit.Below w.heap.size w w' := by
  have hu := Try.underlying53
  obtain ⟨k, hk⟩ := h.rounds
  have hm := constablelaw03_Many.calls k A0 c0 l0 false w hr0 hc0 hk
  obtain ⟨a, ha⟩ : ∃ a, a = setO cf53 l0 := ⟨_, rfl⟩
  have fa : fitL a = true := by rw [ha]; exact set_fit hl
  have sa : IsSet a := by rw [ha]; exact set_is hw
  have hlen : l0.length = 0 ↔ a.length = 0 := by
    rw [List.length_eq_zero_iff, List.length_eq_zero_iff, ha]
    constructor
    · rintro rfl; rfl
    · intro h
      refine List.eq_nil_iff_forall_not_mem.2 fun x hx => ?_
      have := (setO_mem ord53 x l0).2 hx
      rw [h] at this
      cases this
  have hO : Aside0 (∀ W, Go.RowKit.Below w.heap.size w W → Calls Try.prog 30 #[.slice A0 l0.length c0] W fun e w' => ∃ A c, e = .returned (.tuple #[.slice A a.length c, .int .i64 0]) ∧ Row w' A a.length c a ∧ Go.RowKit.Below w.heap.size w w') := ⟨fun W hW => by
    refine (sets_Of.calls A0 c0 l0 a 0 W (Kd.C_below hr0 hW) hc0 (by unfold sets_Of.f; rw [if_pos hl, if_neg (by rw [hw]; decide), ← ha])).mono ?_
    rintro e w' ⟨v, rfl, hS, hb⟩
    obtain ⟨A, c, rfl, hR⟩ := Row.of hS
    exact ⟨A, c, rfl, hR, hW.trans (hb.mono hW.size)⟩⟩
  have hK := Aside0.mk (wak w)
  have hn : a.length ≤ 60 := by rw [ha]; exact Nat.le_trans (setO_len l0) h60
  clear hr0 hc0 h hk hl hw ha h60
  have FA := Aside0.mk fa
  have SA := Aside0.mk sa
  have HL := Aside0.mk hlen
  clear fa sa hlen
  generalize l0.length = n0 at *
  obtain ⟨n, hna⟩ : ∃ n, n = a.length := ⟨_, rfl⟩
  rw [← hna] at hO hn HL
  have HN := Aside0.mk hna
  clear hna
  go_enter Try.func11, Try.ntmps11
  go_wp2_with (first | (go_at_call 29; with_reducible refine hm.mono ?_; rintro e w1 ⟨rfl, hb⟩; have HB := Aside0.mk hb; clear hb hm) | (go_at_call 30; with_reducible refine (hO.out _ HB.out).mono ?_; rintro e w2 ⟨A, c, rfl, hR, hb2⟩; have HB2 := Aside0.mk hb2; have HR := Aside0.mk hR; clear hb2 hR hO HB))
  go_loopg [5] n (fun gg s5 wr => ∃ j : Nat, s5 = .int .i64 ((j : Int) + 1) ∧ (j = 0 ∨ j + 1 ≤ n) ∧ n - (j + 1) ≤ gg ∧ Aside0 (Go.RowKit.Below w2.heap.size w2 wr))
  case atStart => exact ⟨0, rfl, .inl rfl, by omega, Aside0.mk (Go.RowKit.Below.refl _ _)⟩
  case round =>
    obtain ⟨j, rfl, hj, hg, HB⟩ := hrel
    by_cases hlt : j + 1 < n
    · have hltz : (j : Int) + 1 < (n : Int) := by omega
      obtain ⟨ad, A1, c1, eA, y0, y1, y2, y3⟩ := at_T53 (Kd.C_below HR.out.C HB.out) (j : Int) (by omega) (by omega)
      obtain ⟨ad', A2, c2, eA', z0, z1, z2, z3⟩ := at_T53 (Kd.C_below HR.out.C HB.out) ((j : Int) + 1) (by omega) (by omega)
      obtain rfl : ad = ad' := by rw [eA] at eA'; injection eA'
      subst eA
      have hja : j < a.length := by have := HN.out; omega
      have hja2 : j + 1 < a.length := by have := HN.out; omega
      have hcf : cf53 (rd_T53 a (j : Int)) (rd_T53 a ((j : Int) + 1)) = -1 := by
        rw [show (j : Int) + 1 = ((j + 1 : Nat) : Int) by omega, rd53_get hja, rd53_get hja2]
        exact cf_less (List.pairwise_iff_getElem.1 SA.out.2 j (j + 1) hja hja2 (by omega))
      have hfit : (rd_T53 a (j : Int)).f1.length ≤ 1000000 ∧ (rd_T53 a ((j : Int) + 1)).f1.length ≤ 1000000 := by
        rw [show (j : Int) + 1 = ((j + 1 : Nat) : Int) by omega, rd53_get hja, rd53_get hja2]
        exact ⟨(fitX_iff.1 ((fitL_iff.1 FA.out).1 _ (List.getElem_mem hja))).2.2, (fitX_iff.1 ((fitL_iff.1 FA.out).1 _ (List.getElem_mem hja2))).2.2⟩
      generalize rd_T53 a (j : Int) = p at *
      generalize rd_T53 a ((j : Int) + 1) = q at *
      have hcmp : Aside0 (∀ W, Go.RowKit.Below wr.heap.size wr W → Calls Try.prog 48 #[.agg #[.string p.f0, .slice A1 p.f1.length c1], .agg #[.string q.f0, .slice A2 q.f1.length c2]] W fun e w' => e = .returned (.int .i64 (-1)) ∧ Go.RowKit.Below wr.heap.size wr w') := ⟨fun W hW => by
        refine (fact_Compare.calls p.f0 A1 c1 p.f1 q.f0 A2 c2 q.f1 (-1) W (Kd.C_below y3 hW) y2 (Kd.C_below z3 hW) z2 (by unfold fact_Compare.f; rw [if_pos hfit]; exact congrArg some hcf)).mono ?_
        rintro e w' ⟨rfl, hb⟩
        exact ⟨rfl, hW.trans (hb.mono hW.size)⟩⟩
      clear y2 y3 z2 z3 hcf hfit hja hja2
      rw [show ((j : Int)).toNat * 2 = j * 2 by omega] at y0 y1
      rw [show ((j : Int) + 1).toNat * 2 = (j + 1) * 2 by omega] at z0 z1
      have mixed := SortF.lays.mixed
      have jz : (0 : Int) ≤ (j : Int) := by omega
      have jz1 : (j : Int) < (n : Int) := by omega
      have jz2 : (0 : Int) ≤ (j : Int) + 1 := by omega
      have j3 : ((j : Int) + 1).toNat = j + 1 := by omega
      have j4 : IntKind.i64.wrap ((j : Int) + 1 - 1) = (j : Int) := by rw [IntKind.wrap_i64]; omega
      have j5 : wrap64 ((j : Int) + 1 - 1) = (j : Int) := by unfold wrap64; omega
      have j6 : IntKind.i64.wrap (j : Int) = (j : Int) := by rw [IntKind.wrap_i64]; omega
      have j7 : wrap64 (j : Int) = (j : Int) := by unfold wrap64; omega
      have hd1 : Go.RowKit.Below wr.heap.size wr wr.drew := below_drew1 (Go.RowKit.Below.refl _ _)
      go_wp2_with fail
      go_region_held3 (fun w' => w'.cell? (ad.add (j * 2)) = some (.string p.f0) ∧ w'.cell? ⟨(ad.add (j * 2)).block, (ad.add (j * 2)).off + 1, none⟩ = some (.slice A1 p.f1.length c1) ∧ w'.cell? (ad.add ((j + 1) * 2)) = some (.string q.f0) ∧ w'.cell? ⟨(ad.add ((j + 1) * 2)).block, (ad.add ((j + 1) * 2)).off + 1, none⟩ = some (.slice A2 q.f1.length c2))
        (first | go_keep | (refine ⟨?_, ?_, ?_, ?_⟩ <;> assumption))
        (first | (go_at_call 48; (with_reducible refine (hcmp.out _ hd1).mono ?_); rintro e w3 ⟨rfl, hb3⟩; have HB3 := Aside0.mk (HB.out.trans (hb3.mono HB.out.size)); replace y0 := (hb3.cell (World.block_lt_of_cell? wr _ y0)).trans y0; replace y1 := (hb3.cell (World.block_lt_of_cell? wr _ y1)).trans y1; replace z0 := (hb3.cell (World.block_lt_of_cell? wr _ z0)).trans z0; replace z1 := (hb3.cell (World.block_lt_of_cell? wr _ z1)).trans z1; clear hb3))
      go_wp2
      go_roundg (n - (j + 2))
      case measure => omega
      case rel => exact ⟨j + 1, by go_num, .inr (by omega), by omega, HB3⟩
    · have hltz : ¬ (j : Int) + 1 < (n : Int) := by omega
      have HBw : Aside0 (Go.RowKit.Below w.heap.size w wr) := Aside0.mk (HB2.out.trans (HB.out.mono HB2.out.size))
      by_cases h2 : n < 2
      · have h2z : (n : Int) < 2 := by omega
        by_cases h0 : n = 0
        · have e1 : ((n : Int) == 0) = true := by rw [beq_iff_eq]; omega
          have e2 : ((n0 : Int) == 0) = true := by rw [beq_iff_eq]; have := HL.out.2 h0; omega
          go_wp2_with (go_at_call 31; with_reducible refine (hK.out _ HBw.out).mono ?_; rintro e w3 ⟨rfl, hb3⟩)
          go_ret
          exact ⟨rfl, hb3⟩
        · have e1 : ((n : Int) == 0) = false := by rw [beq_eq_false_iff_ne]; omega
          have e2 : ((n0 : Int) == 0) = false := by rw [beq_eq_false_iff_ne]; intro h; exact h0 (HL.out.1 (by omega))
          go_wp2_with (go_at_call 31; with_reducible refine (hK.out _ HBw.out).mono ?_; rintro e w3 ⟨rfl, hb3⟩)
          go_ret
          exact ⟨rfl, hb3⟩
      · have h2z : ¬ (n : Int) < 2 := by omega
        obtain ⟨x, y, q, rfl⟩ : ∃ x y q, a = x :: y :: q := by
          match a, HN.out with
          | [], h => simp at h; omega
          | [x], h => simp at h; omega
          | x :: y :: q, _ => exact ⟨x, y, q, rfl⟩
        obtain ⟨ad, A1, c1, eA, hx0, hx1, hx2, hx3⟩ := at_T53 HR.out.C 0 (by omega) (by omega)
        rw [show ((0 : Int)).toNat * 2 = 0 from rfl, Addr.add_zero'] at hx0 hx1
        rw [show rd_T53 (x :: y :: q) 0 = x from rfl] at hx0 hx1 hx2 hx3
        subst eA
        have hT : Aside0 (∀ W, Go.RowKit.Below w2.heap.size w2 W → Calls Try.prog 41 #[.slice (some ad) n c] W fun e w' => ∃ (g cap : Nat) (cur : Array Value) (f : Nat → Nat) (L : List (FE w' w2.heap.size (fun k => True ∧ k ≠ g) f)), e = .returned (.slice (some ⟨g, 0, none⟩) n cap) ∧ L.map (·.x) = x :: y :: q ∧ (L.map (·.i)).Nodup ∧ w2.heap.size ≤ g ∧ g < w'.heap.size ∧ w'.heap[g]? = some (.cells cur 53 (0, 0)) ∧ n ≤ cap ∧ cap ≤ maxLen ∧ cur.size = cap * 2 ∧ Flat FE.enc 2 cur L.toArray ∧ L.length = n ∧ Go.RowKit.Below w2.heap.size w2 w') := ⟨fun W hW => by
          obtain ⟨k, hk⟩ := (twinF_ev _ FA.out).rounds
          have hN := HN.out
          have hC := Kd.C_below HR.out.C hW
          rw [hN] at hC
          have := constablekeep_TwinFacts.calls k (some ad) c (x :: y :: q) _ W hC (by rw [← hN]; exact HR.out.1) hk
          rw [← hN] at this
          refine this.mono ?_
          rintro e w' ⟨v, rfl, hS, hb⟩
          have hs := hW.size
          rcases open_S (Kd.S_lower hS hs) (fitF_mem.1 (fitL_F FA.out).1) with ⟨_, h⟩ | ⟨g, cap, cur, f, L, rfl, h1, h1n, h3, h4, h5, h6, h7, h8, h9, h10, _⟩
          · cases h
          · rw [← hN] at h6 h10 ⊢
            exact ⟨g, cap, cur, f, L, rfl, h1, h1n, h3, h4, h5, h6, h7, h8, h9, h10, hW.trans (hb.mono hs)⟩⟩
        go_wp2_with (go_at_call 41; with_reducible refine (hT.out _ HB.out).mono ?_; rintro e w3 ⟨g, cap, cur, f, L, rfl, hLx, hLi, hg0, hg1, hgc, hn1, hn2, hcs, hF, hLn, hb3⟩)
        clear hT hu
        obtain ⟨k2, hk2⟩ : ∃ k2, k2 = 2 := ⟨_, rfl⟩
        have aE : ∀ w, (isAgg 53).run Try.prog w = .ok true w := aggF
        have zE : ∀ w, (Go.sizeOf 53).run Try.prog w = .ok k2 w := by rw [hk2]; exact sizeF
        have hRK : RowK FE.enc k2 w3 g 0 L.toArray := by rw [hk2]; exact ⟨enc_len, enc_one, holds_of_flat hgc hF, hg1⟩
        have hLz : L.toArray.size = n := by simpa using hLn
        have hS0 : SWK FE.enc k2 w3 g 0 L.toArray w3 := SWK.start hRK.hH
        have l1a := hS0.ld1 hRK rfl Try.prog 0 (by omega)
        have l1b := hS0.ld1 hRK rfl Try.prog 1 (by omega)
        have s1a := hS0.st1 hRK rfl Try.prog 0 (by omega) L.toArray[1]!
        have s1b := hS0.st2 hRK rfl Try.prog 0 1 (by omega) (by omega) L.toArray[1]! L.toArray[0]!
        have n1a : (FE.enc L.toArray[0]!).length = k2 := hRK.hk _
        have n1b : (FE.enc L.toArray[1]!).length = k2 := hRK.hk _
        have S2 : Aside0 (SWK FE.enc k2 w3 g 0 (swp L.toArray 0 1) ((w3.drew.setCells g (0 + 0 * k2) (FE.enc L.toArray[1]!)).setCells g (0 + 1 * k2) (FE.enc L.toArray[0]!))) := Aside0.mk (hS0.swapped hRK 0 1 (by omega) (by omega))
        simp only [Nat.zero_mul, Nat.one_mul, Nat.zero_add, Nat.add_zero] at l1a l1b s1a s1b S2
        have HRK := Aside0.mk hRK
        have HF3 := Aside0.mk (And.intro hLx (And.intro hLi (And.intro hg0 (And.intro hg1 (And.intro hgc (And.intro hcs (And.intro hF hk2)))))))
        have HB3 := Aside0.mk hb3
        clear hRK hS0 hLx hLi hg0 hg1 hgc hcs hF hb3 hk2
        generalize FE.enc L.toArray[0]! = cI1 at S2 l1a s1b n1a
        generalize FE.enc L.toArray[1]! = cJ1 at S2 l1b s1a s1b n1b
        have mixed := SortF.lays.mixed
        have g0 : (0 : Int) < (n : Int) := by omega
        have g1 : (1 : Int) < (n : Int) := by omega
        go_wp2_with fail
        go_big_region_o
        clear l1a l1b s1a s1b n1a n1b zE aE
        generalize (w3.drew.setCells g 0 cJ1).setCells g k2 cI1 = w4 at S2 ⊢
        have HT4 : Aside0 (Row w4 (some ⟨g, 0, none⟩) n cap (y :: x :: q) ∧ Go.RowKit.Below w2.heap.size w2 w4) := ⟨by
          obtain ⟨hLx, hLi, hg0, hg1, hgc, hcs, hF, rfl⟩ := HF3.out
          obtain ⟨h1, h2⟩ := swap_row hLx hLi hLn hg0 hg1 hgc hn1 hn2 hcs S2.out
          exact ⟨h1, HB3.out.trans h2⟩⟩
        clear S2 HF3 HRK
        have hx4 := (HT4.out.2.cell (World.block_lt_of_cell? w2 _ hx0)).trans hx0
        have hx5 := (HT4.out.2.cell (World.block_lt_of_cell? w2 _ hx1)).trans hx1
        have hA4 : Aside0 (Kd.C k53 w4 (some ad) (x :: y :: q).length (x :: y :: q)) := ⟨by have := Kd.C_below HR.out.C HT4.out.2; rwa [HN.out] at this⟩
        have hc1 : 1 ≤ c := by have := HR.out.1; omega
        have hcn : n ≤ c := HR.out.1
        have hT1 : Aside0 (Calls Try.prog 41 #[.slice (some ad) 1 c] w4 fun e w' => ∃ v, e = .returned v ∧ (∃ A' c' w6, (∀ ty, (Builtin.append_ #[46, 46] ty #[v, .slice (some ad) n c]).run Try.prog w' = .ok (.slice A' (n + 1) c') w6) ∧ Row w6 A' (n + 1) c' (x :: x :: y :: q) ∧ Go.RowKit.Below w4.heap.size w4 w6)) := ⟨by
          have fx : fitL [x] = true := fitL_iff.2 ⟨fun z hz => (fitL_iff.1 FA.out).1 z (by rw [List.mem_singleton.1 hz]; exact List.mem_cons_self), by simp⟩
          obtain ⟨k, hk⟩ := (twinF_ev _ fx).rounds
          have hC1 := Kd.C_take (m := 1) hA4.out (by simp)
          refine (constablekeep_TwinFacts.calls k (some ad) c [x] _ w4 hC1 hc1 hk).mono ?_
          rintro e w5 ⟨v, rfl, hS, hb⟩
          have hN := HN.out
          obtain ⟨A', c', w6, h1, h2, h3⟩ := appendC (W0 := w4) (W := w5) w4.heap.size v [x] (x :: y :: q) (some ad) c hS hA4.out hb (Nat.le_refl _) hb.size (by rw [← hN]; simp; omega) (by simp)
          rw [List.length_append, ← hN, List.length_singleton, Nat.add_comm 1 n] at h1
          rw [List.length_append, ← hN, List.length_singleton, Nat.add_comm 1 n] at h2
          exact ⟨v, rfl, A', c', w6, h1, h2, hb.trans h3⟩⟩
        clear hx0 hx1 hc1
        go_upto_region 16 with (first | (go_at_call 41; with_reducible refine hT1.out.mono ?_; rintro e w5 ⟨v, rfl, A6, c6, w6, happ, hR6, hb6⟩; have HR6 := Aside0.mk hR6; have HB6 := Aside0.mk hb6; replace hx4 := (hb6.cell (World.block_lt_of_cell? w4 _ hx4)).trans hx4; replace hx5 := (hb6.cell (World.block_lt_of_cell? w4 _ hx5)).trans hx5; clear hR6 hb6) | (at_builtin; refine Lib.wpList_append_run _ rfl _ _ _ _ rfl _ _ rfl rfl _ _ (happ _) ?_))
        have HB26 : Aside0 (Go.RowKit.Below w2.heap.size w2 w6) := ⟨HT4.out.2.trans (HB6.out.mono HT4.out.2.size)⟩
        have fxs : fitX x = true := (fitL_iff.1 FA.out).1 x List.mem_cons_self
        have ft : fitL (y :: x :: q) = true := fitL_iff.2 ⟨fun z hz => (fitL_iff.1 FA.out).1 z (by simp only [List.mem_cons] at hz ⊢; rcases hz with h | h | h <;> simp [h]), (fitL_iff.1 FA.out).2⟩
        have fw : fitL (x :: x :: y :: q) = true := fitL_iff.2 ⟨fun z hz => (fitL_iff.1 FA.out).1 z (by simp only [List.mem_cons] at hz ⊢; rcases hz with h | h | h | h <;> simp [h]), by have := HN.out; simp only [List.length_cons] at this ⊢; omega⟩
        have rowA : ∀ W, Go.RowKit.Below w6.heap.size w6 W → Row W (some ad) n c (x :: y :: q) := fun W hW => ⟨hcn, Kd.C_below HR.out.C (HB26.out.trans (hW.mono HB26.out.size))⟩
        have rowT : ∀ W, Go.RowKit.Below w6.heap.size w6 W → Row W (some ⟨g, 0, none⟩) n cap (y :: x :: q) := fun W hW => HT4.out.1.below (HB6.out.trans (hW.mono HB6.out.size))
        have rowW : ∀ W, Go.RowKit.Below w6.heap.size w6 W → Row W A6 (n + 1) c6 (x :: x :: y :: q) := fun W hW => HR6.out.below hW
        have hlA : n = (x :: y :: q).length := HN.out
        have hlT : n = (y :: x :: q).length := HN.out
        have hlW : n + 1 = (x :: x :: y :: q).length := by rw [HN.out]; rfl
        have cPut : Aside0 (Calls Try.prog 32 #[.slice (some ⟨g, 0, none⟩) n cap, .agg #[.string x.f0, .slice A1 x.f1.length c1]] w6 fun e w' => ∃ A c, e = .returned (.tuple #[.slice A 0 c, .int .i64 1]) ∧ Go.RowKit.Below w6.heap.size w6 w') := ⟨by
          have hR := rowT w6 (Go.RowKit.Below.refl _ _)
          have h1 := hR.C
          have h2 := hR.1
          rw [hlT] at h1 h2 ⊢
          refine (sets_Put.calls _ cap (y :: x :: q) x.f0 A1 c1 x.f1 [] 1 w6 h1 h2 (Kd.C_below hx3 HB26.out) hx2 (put_no ft fxs (turned_no SA.out))).mono ?_
          rintro e w' ⟨v, rfl, hS, hb⟩
          obtain ⟨A, c, rfl, _⟩ := Row.of hS
          exact ⟨A, c, rfl, hb⟩⟩
        have cBoth : Aside0 (∀ W, Go.RowKit.Below w6.heap.size w6 W → Calls Try.prog 42 #[.slice (some ad) n c, .slice A6 (n + 1) c6] W fun e w' => ∃ A c, e = .returned (.tuple #[.slice A 0 c, .int .i64 1]) ∧ Go.RowKit.Below w6.heap.size w6 w') := ⟨fun W hW => by
          have h1 := (rowA W hW).C
          have h2 := (rowA W hW).1
          have h3 := (rowW W hW).C
          have h4 := (rowW W hW).1
          rw [hlW] at h3 h4 ⊢
          rw [hlA] at h1 h2 ⊢
          refine (sets_Both.calls _ c (x :: y :: q) A6 c6 (x :: x :: y :: q) [] 1 W h1 h2 h3 h4 (both_no FA.out fw (twice_no _ _))).mono ?_
          rintro e w' ⟨v, rfl, hS, hb⟩
          obtain ⟨A, c, rfl, _⟩ := Row.of hS
          exact ⟨A, c, rfl, hW.trans (hb.mono hW.size)⟩⟩
        have chk : ∀ (W : World) (A : Option Addr) (m c : Nat) (l : List S53) (r : Int), Go.RowKit.Below w6.heap.size w6 W → m = l.length → fitL l = true → chkF l = r → Row W A m c l → Calls Try.prog 35 #[.slice A m c] W fun e w' => e = .returned (.int .i64 r) ∧ Go.RowKit.Below w6.heap.size w6 w' := fun W A m c l r hW hm hf hr hR => by
          subst hm
          subst hr
          obtain ⟨k, hk⟩ := (chk_ev l hf).rounds
          exact (sets_Check.calls k A c l _ W hR.C hR.1 hk).mono fun e w' ⟨he, hb⟩ => ⟨he, hW.trans (hb.mono hW.size)⟩
        have cA : Aside0 (∀ W, Go.RowKit.Below w6.heap.size w6 W → Calls Try.prog 35 #[.slice (some ad) n c] W fun e w' => e = .returned (.int .i64 0) ∧ Go.RowKit.Below w6.heap.size w6 w') := ⟨fun W hW => chk W _ _ _ _ 0 hW hlA FA.out ((chkF_zero _).2 SA.out) (rowA W hW)⟩
        have cT : Aside0 (∀ W, Go.RowKit.Below w6.heap.size w6 W → Calls Try.prog 35 #[.slice (some ⟨g, 0, none⟩) n cap] W fun e w' => e = .returned (.int .i64 1) ∧ Go.RowKit.Below w6.heap.size w6 w') := ⟨fun W hW => chk W _ _ _ _ 1 hW hlT ft (turned_no SA.out) (rowT W hW)⟩
        have cW : Aside0 (∀ W, Go.RowKit.Below w6.heap.size w6 W → Calls Try.prog 35 #[.slice A6 (n + 1) c6] W fun e w' => e = .returned (.int .i64 1) ∧ Go.RowKit.Below w6.heap.size w6 w') := ⟨fun W hW => chk W _ _ _ _ 1 hW hlW fw (twice_no _ _) (rowW W hW)⟩
        have cS : Aside0 (∀ W, Go.RowKit.Below w6.heap.size w6 W → Calls Try.prog 37 #[.slice (some ad) n c] W fun e w' => e = .returned (.bool true) ∧ Go.RowKit.Below w6.heap.size w6 w') := ⟨fun W hW => by
          have hr := ev_rset _ FA.out
          rw [(chkF_zero _).2 SA.out] at hr
          obtain ⟨k, hk⟩ := hr.rounds
          have h1 := (rowA W hW).C
          have h2 := (rowA W hW).1
          rw [hlA] at h1 h2 ⊢
          exact (constableref01_Set.calls k _ c _ true W h1 h2 hk).mono fun e w' ⟨he, hb⟩ => ⟨he, hW.trans (hb.mono hW.size)⟩⟩
        have cK := Aside0.mk (wak w6)
        have HB26w : Aside0 (Go.RowKit.Below w.heap.size w w6) := ⟨HB2.out.trans (HB26.out.mono HB2.out.size)⟩
        have hu := Try.underlying53
        have R6 := Aside0.mk (Go.RowKit.Below.refl w6.heap.size w6)
        clear chk rowA rowT rowW hlA hlT hlW fxs ft fw hx2 hx3 hT1 hK HT4 hA4
        go_wp2_with (first
          | (go_at_call 32; with_reducible refine cPut.out.mono ?_; rintro e w7 ⟨A7, c7, rfl, hb⟩; have R7 := Aside0.mk hb; clear hb)
          | (go_at_call 42; with_reducible refine (cBoth.out _ R7.out).mono ?_; rintro e w8 ⟨A8, c8, rfl, hb⟩; have R8 := Aside0.mk hb; clear hb)
          | (go_at_call 35; first
            | (with_reducible refine (cA.out _ R8.out).mono ?_; rintro e w9 ⟨rfl, hb⟩; have R9 := Aside0.mk hb; clear hb)
            | (with_reducible refine (cT.out _ R9.out).mono ?_; rintro e w10 ⟨rfl, hb⟩; have R10 := Aside0.mk hb; clear hb)
            | (with_reducible refine (cW.out _ R10.out).mono ?_; rintro e w11 ⟨rfl, hb⟩; have R11 := Aside0.mk hb; clear hb))
          | (go_at_call 37; with_reducible refine (cS.out _ R11.out).mono ?_; rintro e w12 ⟨rfl, hb⟩; have R12 := Aside0.mk hb; clear hb)
          | (go_at_call 31; with_reducible refine (cK.out _ R12.out).mono ?_; rintro e w13 ⟨rfl, hb⟩))
        go_ret
        exact ⟨rfl, HB26w.out.trans (hb.mono HB26w.out.size)⟩
theorem rise_all (A0 : Option Addr) (c0 : Nat) (l0 : List (S53)) (w : World) (hr0 : Kd.C k53 w A0 l0.length l0) (hc0 : l0.length ≤ c0) :
    Calls Try.prog 11 #[.slice A0 l0.length c0] w fun e w' => e = .returned (.bool true) ∧ Go.RowKit.Below w.heap.size w w' := by
  rcases many_cases l0 with h | ⟨h, h60, hs⟩
  · exact rise_many A0 c0 l0 w hr0 hc0 h
  · have hl := small_fits h60 hs
    cases hw : l0.any wrongF with
    | true => exact rise_wrong A0 c0 l0 w hr0 hc0 h hl hw
    | false => exact rise_main A0 c0 l0 w hr0 hc0 h h60 hl hw
end Go.Proofs.Ytghommaokdhjmaa.Rise
namespace Go.Proofs.Ytghommaokdhjmaa.P
open Go.RowKit Go.Proofs.YtghommaokdhjmaaW.PrintWords
/-- The law's answer. -/
def constablelaw04_SetsRise.f (k : Nat) (l0 : List (S53)) : Option (Bool) := some true
theorem constablelaw04_SetsRise.calls (k : Nat) (A0 : Option Addr) (c0 : Nat) (l0 : List (S53)) (r : Bool) (w : World) (hr0 : Kd.C k53 w A0 l0.length l0) (hc0 : l0.length ≤ c0) (h : constablelaw04_SetsRise.f k l0 = some r) :
    Calls Try.prog 11 #[.slice A0 l0.length c0] w fun e w' => e = .returned (.bool r) ∧ Go.RowKit.Below w.heap.size w w' := by
  obtain rfl := Option.some.inj h
  exact Rise.rise_all A0 c0 l0 w hr0 hc0
end Go.Proofs.Ytghommaokdhjmaa.P
namespace Go.Proofs.Ytghommaokdhjmaa.Pure
theorem setsRise (l0 : List P.S53) : ∃ k, P.constablelaw04_SetsRise.f k l0 = some true := ⟨0, rfl⟩
end Go.Proofs.Ytghommaokdhjmaa.Pure
/- What an argument's reading tells of its cells: whole numbers, texts, Values, Binds, and rows of them. -/
set_option linter.unusedVariables false
namespace Go.Proofs.Ytghommaokdhjmaa.Open
open Go.RowKit Go.Proofs.YtghommaokdhjmaaW.PrintWords Go.Proofs.Ytghommaokdhjmaa.P
variable {H : Type} {enc : TypeId × Value → H} {P : Program} {w : World} {base : Nat} {sp : Nat → Bool} {held : Bool}
theorem trod_int {t : TypeId} {k : IntKind} (ht : P.underlying t = some (.int k)) {fuel : Nat} {cs : List Value} {x : DataW H × List MemPlace} (h : DataW.trod enc P w base sp held fuel t cs = some x) : ∃ n, cs = [.int k n] ∧ (Lit.int k n).wf = true := by
  cases fuel with
  | zero => simp [DataW.trod] at h
  | succ n =>
    unfold DataW.trod at h
    rw [ht] at h
    split at h <;> simp_all
theorem trod_string {t : TypeId} (ht : P.underlying t = some .string) {fuel : Nat} {cs : List Value} {x : DataW H × List MemPlace} (h : DataW.trod enc P w base sp held fuel t cs = some x) : ∃ s, cs = [.string s] ∧ s.size ≤ maxLen := by
  cases fuel with
  | zero => simp [DataW.trod] at h
  | succ n =>
    unfold DataW.trod at h
    rw [ht] at h
    split at h <;> simp_all

/-- Readings of an element type tell a kind. -/
def Tells (H : Type) (enc : TypeId × Value → H) (P : Program) (base : Nat) (sp : Nat → Bool) (held : Bool) {α : Type} (d : Kd α) (e : TypeId) : Prop :=
  ∀ (w : World) (fuel : Nat) (cs : List Value) (x : DataW H × List MemPlace), DataW.trod enc P w base sp held fuel e cs = some x → ∃ p, d.K w p cs
theorem list_of {α : Type} {Q : Nat → α → Prop} : ∀ (n : Nat), (∀ i, i < n → ∃ p, Q i p) → ∃ l : List α, l.length = n ∧ ∀ j p, l[j]? = some p → Q j p
  | 0, _ => ⟨[], rfl, fun j p h => by simp at h⟩
  | n + 1, h => by
    obtain ⟨l, hl, hq⟩ := list_of n (fun i hi => h i (by omega))
    obtain ⟨p, hp⟩ := h n (by omega)
    refine ⟨l ++ [p], by simp [hl], fun j q hj => ?_⟩
    rcases Nat.lt_trichotomy j n with h1 | h1 | h1
    · rw [List.getElem?_append_left (by omega)] at hj; exact hq j q hj
    · subst h1
      rw [List.getElem?_append_right (by omega), hl, Nat.sub_self] at hj
      obtain rfl : p = q := by simpa using hj
      exact hp
    · rw [List.getElem?_eq_none (by simp; omega)] at hj; cases hj
theorem add_add' (a : Addr) (i j : Nat) : (a.add i).add j = a.add (i + j) := by
  unfold Addr.add
  by_cases hi : i = 0 <;> by_cases hj : j = 0 <;> simp [hi, hj, Nat.add_assoc]
theorem tells_row {α : Type} {d : Kd α} {t e : TypeId} (ht : P.underlying t = some (.slice e)) (hs : P.cellsOf e = d.sz) (hd : Tells H enc P base sp held d e) {fuel : Nat} {cs : List Value} {x : DataW H × List MemPlace}
    (h : DataW.trod enc P w base sp held fuel t cs = some x) : ∃ (A : Option Addr) (c : Nat) (l : List α), cs = [.slice A l.length c] ∧ l.length ≤ c ∧ Kd.C d w A l.length l := by
  rcases DataW.trod_slice ht h with ⟨rfl, _⟩ | ⟨a, len, cap, elems, rest, n, _, rfl, _, _, hl, hcm, hlen, hel, _⟩
  · exact ⟨none, 0, [], rfl, Nat.le_refl _, rfl, by simp, fun h => absurd h (Nat.lt_irrefl _)⟩
  · have hex : ∀ i, i < len → ∃ (p : α), ∃ c : List Value, c.length = d.sz ∧ d.K w p c ∧ ∀ j u, c[j]? = some u → w.cell? (a.add (i * d.sz + j)) = some u := by
      intro i hi
      have h1 := hel i hi
      rw [List.getElem?_eq_getElem (by omega), Option.bind_eq_some_iff] at h1
      obtain ⟨c, hc, htr⟩ := h1
      obtain ⟨p, hp⟩ := hd w _ _ _ htr
      obtain ⟨_, hcl, hcell⟩ := World.cells?_some hc
      refine ⟨p, c, by rw [hcl, hs], hp, fun j u hj => ?_⟩
      have hj' : j < P.cellsOf e := by rw [← hcl]; exact (List.getElem?_eq_some_iff.1 hj).1
      rw [← hs, ← add_add', hcell j hj', hj]
    obtain ⟨l, hll, hq⟩ := list_of len hex
    refine ⟨some a, cap, l, by rw [hll], by omega, rfl, by unfold maxLen at hcm; omega, fun _ => ⟨a, rfl, hq⟩⟩

set_option maxRecDepth 100000 in
theorem tells24 : Tells H enc Try.prog base sp held k24 24 := by
  intro w fuel cs x h
  obtain ⟨xs, n, _, rfl, hl, hlen, hf⟩ := DataW.trod_struct Try.underlying24 h
  have hc : Try.prog.cellsOf 24 = 3 := by kernel_rfl
  have h9 : Try.prog.cellsOf 9 = 1 := by kernel_rfl
  have h3 : Try.prog.cellsOf 3 = 1 := by kernel_rfl
  rw [hc] at hl
  obtain ⟨a, b, c, rfl⟩ : ∃ a b c, cs = [a, b, c] := by
    match cs, hl with
    | [a, b, c], _ => exact ⟨a, b, c, rfl⟩
  obtain ⟨y0, y1, y2, rfl⟩ : ∃ y0 y1 y2, xs = [y0, y1, y2] := by
    match xs, hlen with
    | [y0, y1, y2], _ => exact ⟨y0, y1, y2, rfl⟩
  have g0 : DataW.trod enc Try.prog w base sp held n 3 (List.take (Try.prog.cellsOf 3) (List.drop 0 [a, b, c])) = some y0 := hf 0 _ rfl
  have g1 : DataW.trod enc Try.prog w base sp held n 3 (List.take (Try.prog.cellsOf 3) (List.drop 1 [a, b, c])) = some y1 := hf 1 _ rfl
  have g2 : DataW.trod enc Try.prog w base sp held n 9 (List.take (Try.prog.cellsOf 9) (List.drop 2 [a, b, c])) = some y2 := hf 2 _ rfl
  rw [h3] at g0 g1
  rw [h9] at g2
  obtain ⟨n0, e0, _⟩ := trod_int Try.underlying3 g0
  obtain ⟨n1, e1, _⟩ := trod_int Try.underlying3 g1
  obtain ⟨s2, e2, _⟩ := trod_string Try.underlying9 g2
  obtain rfl : a = _ := by simpa using e0
  obtain rfl : b = _ := by simpa using e1
  obtain rfl : c = _ := by simpa using e2
  exact ⟨⟨n0, n1, s2⟩, k24_mk w _⟩
set_option maxRecDepth 100000 in
theorem tells39 : Tells H enc Try.prog base sp held k39 39 := by
  intro w fuel cs x h
  obtain ⟨xs, n, _, rfl, hl, hlen, hf⟩ := DataW.trod_struct Try.underlying39 h
  have hc : Try.prog.cellsOf 39 = 4 := by kernel_rfl
  have h9 : Try.prog.cellsOf 9 = 1 := by kernel_rfl
  have h3 : Try.prog.cellsOf 24 = 3 := by kernel_rfl
  rw [hc] at hl
  obtain ⟨a, b, c, e, rfl⟩ : ∃ a b c e, cs = [a, b, c, e] := by
    match cs, hl with
    | [a, b, c, e], _ => exact ⟨a, b, c, e, rfl⟩
  obtain ⟨y0, y1, rfl⟩ : ∃ y0 y1, xs = [y0, y1] := by
    match xs, hlen with
    | [y0, y1], _ => exact ⟨y0, y1, rfl⟩
  have g0 : DataW.trod enc Try.prog w base sp held n 9 (List.take (Try.prog.cellsOf 9) (List.drop 0 [a, b, c, e])) = some y0 := hf 0 _ rfl
  have g1 : DataW.trod enc Try.prog w base sp held n 24 (List.take (Try.prog.cellsOf 24) (List.drop 1 [a, b, c, e])) = some y1 := hf 1 _ rfl
  rw [h9] at g0
  rw [h3] at g1
  obtain ⟨s0, e0, _⟩ := trod_string Try.underlying9 g0
  obtain ⟨v, hv⟩ := tells24 w _ _ _ g1
  obtain rfl : a = _ := by simpa using e0
  have hv' := k24_open hv
  simp only [List.drop_succ_cons, List.drop_zero, List.take_succ_cons, List.take_zero, List.cons.injEq, and_true] at hv'
  obtain ⟨rfl, rfl, rfl⟩ := hv'
  exact ⟨⟨s0, v⟩, k39_mk w _⟩
end Go.Proofs.Ytghommaokdhjmaa.Open
/- What an argument's reading tells of its cells: Terms, Facts, Atoms; no condition. -/
set_option linter.unusedVariables false
namespace Go.Proofs.Ytghommaokdhjmaa.Open
open Go.RowKit Go.Proofs.YtghommaokdhjmaaW.PrintWords Go.Proofs.Ytghommaokdhjmaa.P
variable {H : Type} {enc : TypeId × Value → H} {P : Program} {w : World} {base : Nat} {sp : Nat → Bool} {held : Bool}
set_option maxRecDepth 100000 in
theorem tells77 : Tells H enc Try.prog base sp held k77 77 := by
  intro w fuel cs x h
  obtain ⟨xs, n, _, rfl, hl, hlen, hf⟩ := DataW.trod_struct Try.underlying77 h
  have hc : Try.prog.cellsOf 77 = 4 := by kernel_rfl
  have h9 : Try.prog.cellsOf 9 = 1 := by kernel_rfl
  have h3 : Try.prog.cellsOf 24 = 3 := by kernel_rfl
  rw [hc] at hl
  obtain ⟨a, b, c, e, rfl⟩ : ∃ a b c e, cs = [a, b, c, e] := by
    match cs, hl with
    | [a, b, c, e], _ => exact ⟨a, b, c, e, rfl⟩
  obtain ⟨y0, y1, rfl⟩ : ∃ y0 y1, xs = [y0, y1] := by
    match xs, hlen with
    | [y0, y1], _ => exact ⟨y0, y1, rfl⟩
  have g0 : DataW.trod enc Try.prog w base sp held n 9 (List.take (Try.prog.cellsOf 9) (List.drop 0 [a, b, c, e])) = some y0 := hf 0 _ rfl
  have g1 : DataW.trod enc Try.prog w base sp held n 24 (List.take (Try.prog.cellsOf 24) (List.drop 1 [a, b, c, e])) = some y1 := hf 1 _ rfl
  rw [h9] at g0
  rw [h3] at g1
  obtain ⟨s0, e0, _⟩ := trod_string Try.underlying9 g0
  obtain ⟨v, hv⟩ := tells24 w _ _ _ g1
  obtain rfl : a = _ := by simpa using e0
  have hv' := k24_open hv
  simp only [List.drop_succ_cons, List.drop_zero, List.take_succ_cons, List.take_zero, List.cons.injEq, and_true] at hv'
  obtain ⟨rfl, rfl, rfl⟩ := hv'
  exact ⟨⟨s0, v⟩, k77_mk w _⟩
set_option maxRecDepth 100000 in
theorem tells53 : Tells H enc Try.prog base sp held k53 53 := by
  intro w fuel cs x h
  obtain ⟨xs, n, _, rfl, hl, hlen, hf⟩ := DataW.trod_struct Try.underlying53 h
  have hc : Try.prog.cellsOf 53 = 2 := by kernel_rfl
  have h9 : Try.prog.cellsOf 9 = 1 := by kernel_rfl
  have h3 : Try.prog.cellsOf 51 = 1 := by kernel_rfl
  rw [hc] at hl
  obtain ⟨a, b, rfl⟩ : ∃ a b, cs = [a, b] := by
    match cs, hl with
    | [a, b], _ => exact ⟨a, b, rfl⟩
  obtain ⟨y0, y1, rfl⟩ : ∃ y0 y1, xs = [y0, y1] := by
    match xs, hlen with
    | [y0, y1], _ => exact ⟨y0, y1, rfl⟩
  have g0 : DataW.trod enc Try.prog w base sp held n 9 (List.take (Try.prog.cellsOf 9) (List.drop 0 [a, b])) = some y0 := hf 0 _ rfl
  have g1 : DataW.trod enc Try.prog w base sp held n 51 (List.take (Try.prog.cellsOf 51) (List.drop 1 [a, b])) = some y1 := hf 1 _ rfl
  rw [h9] at g0
  rw [h3] at g1
  obtain ⟨s0, e0, _⟩ := trod_string Try.underlying9 g0
  obtain ⟨A, c, l, hcs, hlc, hC⟩ := tells_row Try.underlying51 (by kernel_rfl) tells24 g1
  obtain rfl : a = _ := by simpa using e0
  obtain rfl : b = _ := by simpa using hcs
  exact ⟨⟨s0, l⟩, k53_mk w ⟨s0, l⟩ hlc hC⟩
set_option maxRecDepth 100000 in
theorem tells69 : Tells H enc Try.prog base sp held k69 69 := by
  intro w fuel cs x h
  obtain ⟨xs, n, _, rfl, hl, hlen, hf⟩ := DataW.trod_struct Try.underlying69 h
  have hc : Try.prog.cellsOf 69 = 2 := by kernel_rfl
  have h9 : Try.prog.cellsOf 9 = 1 := by kernel_rfl
  have h3 : Try.prog.cellsOf 67 = 1 := by kernel_rfl
  rw [hc] at hl
  obtain ⟨a, b, rfl⟩ : ∃ a b, cs = [a, b] := by
    match cs, hl with
    | [a, b], _ => exact ⟨a, b, rfl⟩
  obtain ⟨y0, y1, rfl⟩ : ∃ y0 y1, xs = [y0, y1] := by
    match xs, hlen with
    | [y0, y1], _ => exact ⟨y0, y1, rfl⟩
  have g0 : DataW.trod enc Try.prog w base sp held n 9 (List.take (Try.prog.cellsOf 9) (List.drop 0 [a, b])) = some y0 := hf 0 _ rfl
  have g1 : DataW.trod enc Try.prog w base sp held n 67 (List.take (Try.prog.cellsOf 67) (List.drop 1 [a, b])) = some y1 := hf 1 _ rfl
  rw [h9] at g0
  rw [h3] at g1
  obtain ⟨s0, e0, _⟩ := trod_string Try.underlying9 g0
  obtain ⟨A, c, l, hcs, hlc, hC⟩ := tells_row Try.underlying67 (by kernel_rfl) tells77 g1
  obtain rfl : a = _ := by simpa using e0
  obtain rfl : b = _ := by simpa using hcs
  exact ⟨⟨s0, l⟩, k69_mk w ⟨s0, l⟩ hlc hC⟩
end Go.Proofs.Ytghommaokdhjmaa.Open
/- The row of SetsRise: whatever the input, true; out of the printed walk and the plain law. -/
namespace Go.Proofs.Ytghommaokdhjmaa.setsRise
open Go.ChangeShapes Go.WideShapes Go.ChangeAt Go.RowKit Go.Proofs.YtghommaokdhjmaaW.PrintWords Go.Proofs.Ytghommaokdhjmaa.P Go.Proofs.Ytghommaokdhjmaa.Open
open Go.ChangeMaps (open_string shut_string)
set_option linter.unusedVariables false
theorem own : ownKnob Try.prog.godebug = none := by kernel_rfl
theorem laidOut : laidOutB Try.prog = true := by kernel_rfl
set_option maxRecDepth 100000 in
theorem lifted (os : Os) (started : os.Started) (H : Type) (enc : TypeId × Value → H) :
    ReturnsInHanded {} Try.checked os 11 .any (Rows.setsRiseSpec.pre6 enc Try.prog Try.f11 Rows.setsRiseRow.domain false) (Rows.setsRiseSpec.post enc Try.prog Try.f11 false true false false) := by
  refine returnsInHanded_of_change_sized (C := Try.checked) own started (by kernel_rfl) Try.func11
    (ChangeSpec.witness6 (enc := enc) (C := Try.checked) false ⟨#[], #[.slice none 0 0], []⟩ 8 (by kernel_rfl) (by kernel_rfl) (by kernel_rfl) (by kernel_rfl)) ?_
  intro W base args ds gs before hval0 hW hcnd hsz0 _
  have hval : ∀ (j : Nat) t v, Try.f11.params[j]? = some t → args[j]? = some v → Value.okWide Try.prog W .any base t v := hval0
  have hW' := hW
  obtain ⟨p, q, hA0, hV, rfl, hfz, hnd⟩ := hW
  have hA : DataW.TrodAll enc Try.prog W 0 (fun _ => true) true Try.f11.params.toList args.toList ds p := hA0
  rw [Try.params11] at hA hval
  obtain ⟨v0, vs0, d0, ds0, p0, q0, hargs, rfl, rfl, h0, r0⟩ := trodAll_cons hA
  obtain ⟨rfl, rfl, rfl⟩ := trodAll_nil r0
  obtain rfl : args = #[v0] := by cases args; simp_all
  obtain ⟨rfl, rfl⟩ := trodVars_none hV
  obtain ⟨a0, len0, cap0, rfl⟩ := okWide_slice Try.underlying46 (hval 0 46 v0 rfl rfl)
  have k0 := h0
  have lt0 : ∀ x ∈ p0, x.block < W.heap.size := by obtain ⟨m, hm⟩ := k0; exact DataW.trod_lt m _ _ _ hm
  obtain ⟨l0, rfl, hc0, hr0⟩ : ∃ l : List S53, len0 = l.length ∧ l.length ≤ cap0 ∧ Kd.C k53 W a0 l.length l := by
    obtain ⟨fuel, hf⟩ := h0
    obtain ⟨A, c, l, hcs, hl, hC⟩ := tells_row Try.underlying46 (by kernel_rfl) tells53 hf
    simp [Value.cells] at hcs
    obtain ⟨rfl, rfl, rfl⟩ := hcs
    exact ⟨l, rfl, hl, hC⟩
  clear hA0 hval0 hsz0
  obtain ⟨kf, hkf⟩ := Pure.setsRise l0
  refine (P.constablelaw04_SetsRise.calls kf a0 cap0 l0 true W hr0 hc0 hkf).mono fun e W' ⟨he, bel⟩ => ?_
  subst he
  exact ⟨_, rfl, _, _, _, [], _, [], hW', trodAll_mk1 (shut_bool Try.underlying4 _), (trodAll_cons_mk (Below.trod laidOut (by kernel_rfl) (of_decide_eq_true (by kernel_rfl)) k0 bel lt0) trodAll_mk0), rfl, bel.frame _, fun h => by cases h⟩
theorem over : Rows.setsRiseRow.holds Try.pinned (OpenSpec.ofChange Rows.setsRiseSpec) :=
  OpenClaim.holds_of_wide 11 Try.f11 rfl rfl rfl rfl rfl rfl rfl ⟨rfl, rfl, rfl, rfl, rfl⟩ rfl rfl rfl rfl rfl (by kernel_rfl) Try.func11 (by kernel_rfl)
    (of_decide_eq_true (by kernel_rfl)) (by unfold Func.isWrapper; first | (rw [if_pos (by decide +kernel)]; kernel_rfl) | (rw [if_neg (by decide +kernel)]; exact ⟨rfl, rfl⟩))
    (fun os started H enc _ => lifted os started H enc)
theorem proved : Rows.SetsRiseSaid := over
end Go.Proofs.Ytghommaokdhjmaa.setsRise
namespace Go.Proofs.Ytghommaokdhjmaa
/-- The row, under a short name, for the claim. -/
theorem setsRise_holds : Rows.SetsRiseSaid := setsRise.proved
#print axioms setsRise_holds
end Go.Proofs.Ytghommaokdhjmaa
