/- The row of SetsExact, and what it rests on; no condition. -/
import Derived.Test.YtghommaokdhjmaaSPC2
import Derived.Deep.RegionHeld3
import Derived.ChangeSame
import Derived.ChangeArms
import Derived.Test.YtghommaokdhjmaaRows
import Derived.WalkKit
import Derived.ProofKit
import Derived.OpenShut
import Derived.ShutString
import Derived.ChangeOld
import Derived.Below
import Derived.SizedLaws
namespace Go.Proofs.Ytghommaokdhjmaa.P
open Go.RowKit Go.Proofs.YtghommaokdhjmaaW.PrintWords Go.Proofs.YtghommaokdhjmaaW.PrintLast Go.Proofs.Ytghommaokdhjmaa.Gate
set_option linter.unusedVariables false
set_option linter.unusedSimpArgs false

/-! ### constablekeep_TwinFact: function 77 -/
def constablekeep_TwinFact.f (a0_0 : ByteArray) (l0_1 : List (S24)) : Option (ByteArray × (List (S24))) := if ([] : List (S24)).length + l0_1.length < 4398046511104 then (some (a0_0, (([] : List (S24)) ++ l0_1))) else (none)
set_option maxHeartbeats 8000000 in
set_option maxRecDepth 100000 in
theorem constablekeep_TwinFact.calls (a0_0 : ByteArray) (A0_1 : Option Addr) (c0_1 : Nat) (l0_1 : List (S24)) (r1 : ByteArray) (r2 : List (S24)) (w : World) (hr0_1 : Kd.C k24 w A0_1 l0_1.length l0_1) (hc0_1 : l0_1.length ≤ c0_1) (h : constablekeep_TwinFact.f a0_0 l0_1 = some (r1, r2)) :
  Calls Try.prog 77 #[.agg #[.string a0_0, .slice A0_1 l0_1.length c0_1]] w fun e w' => ∃ v1_ : Value, e = .returned (.agg #[.string r1, v1_]) ∧ Kd.R k24 24 w' w.heap.size (fun _ => True) v1_ r2 ∧ Below w.heap.size w w' := by
 have hu53 := Try.underlying53
 have HR0_1 := Aside0.mk hr0_1
 have HC0_1 := Aside0.mk hc0_1
 clear hr0_1 hc0_1
 have HB := Aside0.mk (Below.refl w.heap.size w)
 have H : (if ([] : List (S24)).length + l0_1.length < 4398046511104 then (some (a0_0, (([] : List (S24)) ++ l0_1))) else (none)) = some (r1, r2) := h
 clear h
 by_cases c2 : ([] : List (S24)).length + l0_1.length < 4398046511104
 ·rw [if_pos c2] at H
  have LMc2 := Aside0.mk c2
  clear c2
  obtain ⟨y554, hy554⟩ : ∃ y_ : List (S24), y_ = (([] : List (S24)) ++ l0_1) := ⟨_, rfl⟩
  replace H : (some (a0_0, y554)) = some (r1, r2) := by first | (rw [hy554]; with_reducible exact H) | (have H2_ := (Option.bind_some _ _).symm.trans H; rw [hy554]; with_reducible exact H2_) | (have H2_ := (Option.bind_some _ _).symm.trans H; with_reducible exact H2_) | with_reducible exact H | (rw [hy554]; exact H) | exact H
  have Ny554 := Aside0.mk hy554
  clear hy554
  simp only [Option.some.injEq, Prod.mk.injEq] at H
  obtain ⟨rfl, rfl⟩ := H
  go_enter Try.func77, Try.ntmps77
  go_wp2_with (first | ((with_reducible refine gate_dst (N := 1) rfl ?_); refine bE (N := 1) (cs := #[.string a0_0, .slice A0_1 l0_1.length c0_1]) (t := 53) ?_; intro gb551 hg w3 hbox hb; have n0_ := Aside0.mk (below_step bB0 hb); have n1_ := Aside0.mk (hbox); have n2_ := Aside0.mk ((by rw [hg]; exact (below_size bB0) : w.heap.size ≤ gb551)); have n3_ := Aside0.mk ((by rw [hg]; exact (below_size bB0) : w.heap.size ≤ gb551)); clear HB; have HB := n0_; have BK551 := n1_; have GW551 := n2_; have GE551 := n3_; clear n0_ n1_ n2_ n3_; clear hb hbox hg) | ((with_reducible refine gate_dst (N := 2) rfl ?_); refine bE (N := 2) (cs := #[.string (⟨#[]⟩ : ByteArray), .slice none 0 0]) (t := 53) ?_; intro gb552 hg w4 hbox hb; have n0_ := Aside0.mk (blk_below (g := gb551) (o := .cells #[.string a0_0, .slice A0_1 l0_1.length c0_1] 53 (0, 0)) (by refine bk ?_; exact BK551.out) hb); have n1_ := Aside0.mk (below_step (bB1 GE551.out) hb); have n2_ := Aside0.mk (hbox); have n3_ := Aside0.mk ((by rw [hg]; exact (below_size (bB1 GE551.out)) : w.heap.size ≤ gb552)); have n4_ := Aside0.mk ((by rw [hg]; exact (below_size (bB1 GE551.out)) : w.heap.size ≤ gb552)); have n5_ := Aside0.mk ((by rw [hg]; exact Nat.ne_of_lt (blk_lt (g := gb551) (o := .cells #[.string a0_0, .slice A0_1 l0_1.length c0_1] 53 (0, 0)) (by refine bk ?_; exact BK551.out)) : gb551 ≠ gb552)); have n6_ := Aside0.mk ((by rw [hg]; exact Nat.ne_of_gt (blk_lt (g := gb551) (o := .cells #[.string a0_0, .slice A0_1 l0_1.length c0_1] 53 (0, 0)) (by refine bk ?_; exact BK551.out)) : gb552 ≠ gb551)); clear BK551; clear HB; have BK551 := n0_; have HB := n1_; have BK552 := n2_; have GW552 := n3_; have GE552 := n4_; have NB551_552 := n5_; have NB552_551 := n6_; clear n0_ n1_ n2_ n3_ n4_ n5_ n6_; clear hb hbox hg; have hnb5 := NB551_552.out; have hnc5 := NB552_551.out; have hcz6_0 : w4.cell? ⟨gb551, 0, none⟩ = some (.string a0_0) := (blk_cell BK551.out 0).trans rfl; have hcz6_1 : w4.cell? ⟨gb551, 1, none⟩ = some (.slice A0_1 l0_1.length c0_1) := (blk_cell BK551.out 1).trans rfl; have hfz6_0 := blk_frozen BK551.out 0; have hfz6_1 := blk_frozen BK551.out 1) | ((with_reducible refine gate_dst (N := 3) rfl ?_); refine bE (N := 3) (cs := #[.string (⟨#[]⟩ : ByteArray), .slice none 0 0]) (t := 53) ?_; intro gb553 hg w7 hbox hb; have n0_ := Aside0.mk (blk_below (g := gb551) (o := .cells #[.string a0_0, .slice A0_1 l0_1.length c0_1] 53 (0, 0)) (by refine bk ?_; exact BK551.out) hb); have n1_ := Aside0.mk (blk_below (g := gb552) (o := .cells #[.string (⟨#[]⟩ : ByteArray), .slice none 0 0] 53 (0, 0)) (by refine bk ?_; exact BK552.out) hb); have n2_ := Aside0.mk (below_step (bB2 GE551.out GE552.out) hb); have n3_ := Aside0.mk (hbox); have n4_ := Aside0.mk ((by rw [hg]; exact (below_size (bB2 GE551.out GE552.out)) : w.heap.size ≤ gb553)); have n5_ := Aside0.mk ((by rw [hg]; exact (below_size (bB2 GE551.out GE552.out)) : w.heap.size ≤ gb553)); have n6_ := Aside0.mk ((by rw [hg]; exact Nat.ne_of_lt (blk_lt (g := gb551) (o := .cells #[.string a0_0, .slice A0_1 l0_1.length c0_1] 53 (0, 0)) (by refine bk ?_; exact BK551.out)) : gb551 ≠ gb553)); have n7_ := Aside0.mk ((by rw [hg]; exact Nat.ne_of_gt (blk_lt (g := gb551) (o := .cells #[.string a0_0, .slice A0_1 l0_1.length c0_1] 53 (0, 0)) (by refine bk ?_; exact BK551.out)) : gb553 ≠ gb551)); have n8_ := Aside0.mk ((by rw [hg]; exact Nat.ne_of_lt (blk_lt (g := gb552) (o := .cells #[.string (⟨#[]⟩ : ByteArray), .slice none 0 0] 53 (0, 0)) (by refine bk ?_; exact BK552.out)) : gb552 ≠ gb553)); have n9_ := Aside0.mk ((by rw [hg]; exact Nat.ne_of_gt (blk_lt (g := gb552) (o := .cells #[.string (⟨#[]⟩ : ByteArray), .slice none 0 0] 53 (0, 0)) (by refine bk ?_; exact BK552.out)) : gb553 ≠ gb552)); clear BK551; clear BK552; clear HB; have BK551 := n0_; have BK552 := n1_; have HB := n2_; have BK553 := n3_; have GW553 := n4_; have GE553 := n5_; have NB551_553 := n6_; have NB553_551 := n7_; have NB552_553 := n8_; have NB553_552 := n9_; clear n0_ n1_ n2_ n3_ n4_ n5_ n6_ n7_ n8_ n9_; clear hb hbox hg; have hnb8 := NB553_551.out; have hnc8 := NB551_553.out; have hnb9 := NB553_552.out; have hnc9 := NB552_553.out; have hcz10_0 : w7.cell? ⟨gb553, 0, none⟩ = some (.string (⟨#[]⟩ : ByteArray)) := (blk_cell BK553.out 0).trans rfl; have hcz10_1 : w7.cell? ⟨gb553, 1, none⟩ = some (.slice none 0 0) := (blk_cell BK553.out 1).trans rfl; have hfz10_0 := blk_frozen BK553.out 0; have hfz10_1 := blk_frozen BK553.out 1; have hcz11_0 : w7.cell? ⟨gb551, 0, none⟩ = some (.string a0_0) := (blk_cell BK551.out 0).trans rfl; have hcz11_1 : w7.cell? ⟨gb551, 1, none⟩ = some (.slice A0_1 l0_1.length c0_1) := (blk_cell BK551.out 1).trans rfl; have hfz11_0 := blk_frozen BK551.out 0; have hfz11_1 := blk_frozen BK551.out 1) | ((with_reducible refine gate_builtin (b := .append) (xs := #[.tmp 8, .tmp 10]) rfl ?_); at_builtin; refine Kd.R_append_rows k24 (w0 := w) w.heap.size rfl (.tmp 8) (.tmp 10) 51 24 (.agg #[(.int .i64 0), (.int .i64 0), (.string ⟨#[]⟩)]) 32 rfl Try.underlying51 info24 rfl (by decide) (by omega) (.slice none 0 0) ([] : List (S24)) l0_1 _ _ _ (fun _ => True) (fun _ => False) rfl rfl ?aO ?aR (fun _ _ h => h) (fun _ h => h.elim) ?aF ?aB ?aS ?aL ?_; (case aR => exact Kd.C_below HR0_1.out (bB3 GE551.out GE552.out GE553.out)); (case aB => exact (bB3 GE551.out GE552.out GE553.out)); (case aF => exact (fun _ _ => trivial)); (case aO => exact ((Kd.R_nil _ _ _ _ (fun _ => True)))); (case aS => exact (below_size (bB3 GE551.out GE552.out GE553.out))); (case aL => have := LMc2.out; omega); intro v555 w12 ho hb hg hat; rw [← Ny554.out] at ho; have n0_ := Aside0.mk (blk_grown (g := gb551) (o := .cells #[.string a0_0, .slice A0_1 l0_1.length c0_1] 53 (0, 0)) (by refine bk ?_; refine blk_far ?_ NB551_553.out _; refine bk ?_; refine blk_far ?_ NB551_553.out _; refine bk ?_; exact BK551.out) hg (by simp [Value.ownBlock])); have n1_ := Aside0.mk (blk_grown (g := gb552) (o := .cells #[.string (⟨#[]⟩ : ByteArray), .slice none 0 0] 53 (0, 0)) (by refine bk ?_; refine blk_far ?_ NB552_553.out _; refine bk ?_; refine blk_far ?_ NB552_553.out _; refine bk ?_; exact BK552.out) hg (by simp [Value.ownBlock])); have n2_ := Aside0.mk (blk_grown (g := gb553) (o := .cells #[.string a0_0, .slice none 0 0] 53 (0, 0)) (by refine bk ?_; refine blk_put (cs := #[.string a0_0, .slice none 0 0]) ?_ 1 _ rfl; refine bk ?_; refine blk_put (cs := #[.string (⟨#[]⟩ : ByteArray), .slice none 0 0]) ?_ 0 _ rfl; refine bk ?_; exact BK553.out) hg (by simp [Value.ownBlock])); have n3_ := Aside0.mk (hb); have n4_ := Aside0.mk (ho); clear BK551; clear BK552; clear BK553; clear HB; have BK551 := n0_; have BK552 := n1_; have BK553 := n2_; have HB := n3_; have HO556 := n4_; clear n0_ n1_ n2_ n3_ n4_; clear ho hb hg hat; obtain ⟨Ao13, co13, eo13⟩ := Kd.R_slice HO556.out; subst eo13; have hcz14_0 : w12.cell? ⟨gb553, 0, none⟩ = some (.string a0_0) := (blk_cell BK553.out 0).trans rfl; have hcz14_1 : w12.cell? ⟨gb553, 1, none⟩ = some (.slice none 0 0) := (blk_cell BK553.out 1).trans rfl; have hfz14_0 := blk_frozen BK553.out 0; have hfz14_1 := blk_frozen BK553.out 1; have hcz15_0 : w12.cell? ⟨gb552, 0, none⟩ = some (.string (⟨#[]⟩ : ByteArray)) := (blk_cell BK552.out 0).trans rfl; have hcz15_1 : w12.cell? ⟨gb552, 1, none⟩ = some (.slice none 0 0) := (blk_cell BK552.out 1).trans rfl; have hfz15_0 := blk_frozen BK552.out 0; have hfz15_1 := blk_frozen BK552.out 1))
  refine bodyPost_ret (results_cell_row rfl _ _ gb552 53 #[.string a0_0, .slice Ao13 y554.length co13] (0, 0) _ rfl (by refine bk ?_; refine blk_put (cs := #[.string a0_0, .slice none 0 0]) ?_ 1 _ rfl; refine bk ?_; refine blk_put (cs := #[.string (⟨#[]⟩ : ByteArray), .slice none 0 0]) ?_ 0 _ rfl; refine bk ?_; refine blk_far ?_ NB552_553.out _; refine bk ?_; exact BK552.out) Try.underlying53 rfl (by kernel_rfl)) rfl ?_
  exact ⟨_, eW, by (with_reducible repeat (first | apply Kd.R_alloc | apply Kd.R_drewN | apply Kd.R_drew)); exact Kd.R_mono (Kd.R_far (p := ⟨gb552, 1, none⟩) (Kd.R_far (p := ⟨gb552, 0, none⟩) (Kd.R_far (p := ⟨gb553, 1, none⟩) (Kd.R_types (Kd.R_types HO556.out BK553.out (by decide)) BK552.out (by decide)) (fun _ hk => hk.1.2) (.slice Ao13 y554.length co13)) (fun _ hk => hk.2) (.string a0_0)) (fun _ hk => hk.2) (.slice Ao13 y554.length co13)) (fun _ hk => trivial), (bB3 GE551.out GE552.out GE553.out)⟩
 ·rw [if_neg c2] at H
  exact absurd H (by simp)

end Go.Proofs.Ytghommaokdhjmaa.P
namespace Go.Proofs.Ytghommaokdhjmaa.P
open Go.RowKit Go.Proofs.YtghommaokdhjmaaW.PrintWords Go.Proofs.YtghommaokdhjmaaW.PrintLast Go.Proofs.Ytghommaokdhjmaa.Gate
set_option linter.unusedVariables false
set_option linter.unusedSimpArgs false

/-! ### constablekeep_TwinFacts: function 41 -/
def constablekeep_TwinFacts.l0 : Nat → List (S53) → List (S53) → Int → Option ((List (S53)))
 | 0, _, _, _ => none
 | k + 1, x0, x3, x4 => if x4 < (x0.length : Int) then (if 0 ≤ x4 then ((constablekeep_TwinFact.f ((rd_T53 x0 x4).f0) ((rd_T53 x0 x4).f1)).bind fun bt558 => (if x3.length < 3518437208883 then (constablekeep_TwinFacts.l0 k x0 (x3 ++ [(⟨bt558.1, bt558.2⟩ : S53)]) (wrap64 (x4 + 1))) else (none))) else (none)) else (some x3)
def constablekeep_TwinFacts.f (k : Nat) (l0 : List (S53)) : Option ((List (S53))) := constablekeep_TwinFacts.l0 k l0 ([] : List (S53)) 0
theorem constablekeep_TwinFacts.mono_l : ∀ k, (∀ y0 y1 y2, LeO (constablekeep_TwinFacts.l0 k y0 y1 y2) (constablekeep_TwinFacts.l0 (k + 1) y0 y1 y2))
 | 0 => fun _ _ _ r h => by simp [constablekeep_TwinFacts.l0] at h
 | k + 1 => by
  have ih0 := constablekeep_TwinFacts.mono_l k
  ·intro y0 y1 y2
   unfold constablekeep_TwinFacts.l0
   repeat' first
   | (with_reducible exact ih0 _ _ _)
   | (with_reducible exact LeO.refl _)
   | (with_reducible exact LeO.none _)
   | (with_reducible refine LeO.ite ?_ ?_)
   | (with_reducible refine LeO.bind ?_ (fun _ => ?_))
theorem constablekeep_TwinFacts.mono : ∀ a0 k, LeO (constablekeep_TwinFacts.f k a0) (constablekeep_TwinFacts.f (k + 1) a0) := by
 intro a0 k
 have ih0 := constablekeep_TwinFacts.mono_l k
 unfold constablekeep_TwinFacts.f
 repeat' first
   | (with_reducible exact ih0 _ _ _)
   | (with_reducible exact LeO.refl _)
   | (with_reducible exact LeO.none _)
   | (with_reducible refine LeO.ite ?_ ?_)
   | (with_reducible refine LeO.bind ?_ (fun _ => ?_))
set_option maxHeartbeats 8000000 in
set_option maxRecDepth 100000 in
theorem constablekeep_TwinFacts.calls (k : Nat) (A0 : Option Addr) (c0 : Nat) (l0 : List (S53)) (r : List (S53)) (w : World) (hr0 : Kd.C k53 w A0 l0.length l0) (hc0 : l0.length ≤ c0) (h : constablekeep_TwinFacts.f k l0 = some r) :
  Calls Try.prog 41 #[.slice A0 l0.length c0] w fun e w' => ∃ v0_ : Value, e = .returned (v0_) ∧ Kd.S k53 53 w' w.heap.size (fun _ => True) v0_ r ∧ Below w.heap.size w w' := by
 have hu53 := Try.underlying53
 have HR0 := Aside0.mk hr0
 have HC0 := Aside0.mk hc0
 clear hr0 hc0
 have HB := Aside0.mk (Below.refl w.heap.size w)
 have H : (constablekeep_TwinFacts.l0 k l0 ([] : List (S53)) 0) = some r := h
 clear h
 have H' := Aside0.mk H
 clear H
 go_enter Try.func41, Try.ntmps41
 go_wp2
 go_loopg [3, 4] k (fun kq v3 v4 w' => ∃ (x3_1 : List (S53)) (x4_1 : Int), v4 = .int .i64 x4_1 ∧ Aside0 (constablekeep_TwinFacts.l0 kq l0 x3_1 x4_1 = some r) ∧ Aside0 (kq ≤ k) ∧ Aside0 (Kd.S k53 53 w' w.heap.size (fun _ => True) v3 x3_1) ∧ Aside0 (Below w.heap.size w w'))
 case atStart => exact ⟨(([] : List (S53))), (0), (by first | rfl | (simp; done) | (simp [*]; done)), H', ⟨Nat.le_refl _⟩, ⟨by first | exact Kd.S_nil _ _ _ _ _ | exact Kd.N_nil _ _ _ _ _ | exact Kd.V_nil _ _ _ _ _ | exact Kd.Q_nil _ _ _ _ _ | exact Kd.R_nil _ _ _ _ _⟩, ⟨bB0⟩⟩
 case round =>
  clear H'
  obtain ⟨x3_1, x4_1, rfl, HA, HK1, HO_3, HB⟩ := hrel
  cases gk with
  | zero => exact absurd HA.out (by simp [constablekeep_TwinFacts.l0])
  | succ k1 =>
   have H := HA.out
   clear HA
   simp only [constablekeep_TwinFacts.l0] at H
   by_cases c2 : x4_1 < (l0.length : Int)
   ·rw [if_pos c2] at H
    have c2b0 : decide (x4_1 < (l0.length : Int)) = true := decide_eq_true c2
    clear c2
    by_cases c3 : 0 ≤ x4_1
    ·rw [if_pos c3] at H
     have c3b0 : decide (0 ≤ x4_1) = true := decide_eq_true c3
     clear c3
     replace H := Option.bind_eq_some_iff.mp H
     obtain ⟨⟨t558, t559⟩, A40, H⟩ := H
     replace H : (if x3_1.length < 3518437208883 then (constablekeep_TwinFacts.l0 k1 l0 (x3_1 ++ [(⟨t558, t559⟩ : S53)]) (wrap64 (x4_1 + 1))) else (none)) = some r := H
     have A4 := Aside0.mk A40
     clear A40
     by_cases c5 : x3_1.length < 3518437208883
     ·rw [if_pos c5] at H
      have LMc5 := Aside0.mk c5
      clear c5
      obtain ⟨y562, hy562⟩ : ∃ y_ : List (S53), y_ = (x3_1 ++ [(⟨t558, t559⟩ : S53)]) := ⟨_, rfl⟩
      replace H : (constablekeep_TwinFacts.l0 k1 l0 y562 (wrap64 (x4_1 + 1))) = some r := by first | (rw [hy562]; with_reducible exact H) | (have H2_ := (Option.bind_some _ _).symm.trans H; rw [hy562]; with_reducible exact H2_) | (have H2_ := (Option.bind_some _ _).symm.trans H; with_reducible exact H2_) | with_reducible exact H | (rw [hy562]; exact H) | exact H
      have Ny562 := Aside0.mk hy562
      clear hy562
      have H' := Aside0.mk H
      clear H
      have p557 : 0 ≤ (x4_1 : Int) := of_decide_eq_true (by first | (with_reducible assumption) | assumption)
      have q557 : x4_1 < (l0.length : Int) := of_decide_eq_true (by first | (with_reducible assumption) | assumption)
      obtain ⟨ad557, A557_1, c557_1, e557, hx557_0, hx557_1, hl557_1, hi557_1⟩ := at_T53 HR0.out x4_1 p557 q557
      cases e557
      have HZ557_1 := Aside0.mk hx557_1
      replace hx557_0 := (HB.out.cell (World.block_lt_of_cell? w _ hx557_0)).trans hx557_0
      replace hx557_1 := (HB.out.cell (World.block_lt_of_cell? w _ hx557_1)).trans hx557_1
      have HR557_1 := Aside0.mk hi557_1
      have HC557_1 := Aside0.mk hl557_1
      clear hi557_1 hl557_1
      replace p557 := eq_true p557
      replace q557 := eq_true q557
      go_wp2_with (first | ((with_reducible refine gate_callee (f := 77) rfl ?_); refine goesL_ (some 16) rfl rfl Try.func77 (by kernel_rfl) rfl #[.agg #[.string ((rd_T53 l0 x4_1).f0), .slice A557_1 ((rd_T53 l0 x4_1).f1).length c557_1]] rfl aG ?_; (with_reducible refine (constablekeep_TwinFact.calls ((rd_T53 l0 x4_1).f0) _ _ ((rd_T53 l0 x4_1).f1) t558 t559 _ ?side1 ?side2 A4.out).mono ?_); (case side1 => exact sC (Kd.C_below HR557_1.out HB.out)); (case side2 => exact HC557_1.out); rintro e w6 ⟨v560, rfl, ho0, hb⟩; refine ⟨_, rfl, ?_⟩; have n0_ := Aside0.mk (Kd.S_elder' (by (with_reducible repeat (first | apply Kd.S_alloc | apply Kd.S_drewN | apply Kd.S_drew)); exact HO_3.out) (Kd.R_base ho0) hb); have n1_ := Aside0.mk (Kd.R_lower ho0 (below_size bB0)); have n2_ := Aside0.mk (below_step bB0 hb); clear HO_3; clear HB; have HO_3 := n0_; have HO561 := n1_; have HB := n2_; clear n0_ n1_ n2_; (try clear hb); (try clear hb2); (try clear hk); (try clear hi); (try clear ho0); obtain ⟨Ao8, co8, eo8⟩ := Kd.R_slice HO561.out; subst eo8) | ((with_reducible refine gate_builtin (b := .append) (xs := #[.tmp 11, .tmp 17]) rfl ?_); at_builtin; refine Kd.S_append k53 (w0 := w) w.heap.size rfl (.tmp 11) (.tmp 17) 46 53 (.agg #[(.string ⟨#[]⟩), (.slice none 0 0)]) 40 rfl Try.underlying46 info53 rfl (by decide) (by omega) u3 x3_1 (⟨t558, t559⟩ : S53) [.string t558, .slice Ao8 t559.length co8] (fun _ => True) (fun k_ => some k_ = (.slice Ao8 t559.length co8 : Value).ownBlock) rfl rfl ?aP (fun k_ hk_ => ((Kd.R_mono (ok' := fun k_ => ((fun _ => True)) k_ ∧ some k_ ≠ (u3 : Value).ownBlock) (Kd.R_apart' (HO561.out) (Kd.S_typed HO_3.out) (by decide)) (fun k_ hk => ⟨trivial, hk.2⟩))).1 k_ hk_.symm) ?aF ?aO ?aB ?aS ?aL ?_; (case aP => exact k53_mkM _ _ _ (⟨t558, t559⟩ : S53) (Kd.R_mono (Kd.R_tight rfl (Kd.R_mono (ok' := fun k_ => ((fun _ => True)) k_ ∧ some k_ ≠ (u3 : Value).ownBlock) (Kd.R_apart' (HO561.out) (Kd.S_typed HO_3.out) (by decide)) (fun k_ hk => ⟨trivial, hk.2⟩))) (fun _ h_ => h_))); (case aB => exact bB0); (case aF => exact (fun _ _ => trivial)); (case aO => exact (by (with_reducible repeat (first | apply Kd.S_alloc | apply Kd.S_drewN | apply Kd.S_drew)); exact Kd.S_mono HO_3.out (fun k_ hk => ⟨trivial, fun e_ => hk.2 e_⟩))); (case aS => exact (below_size bB0)); (case aL => have := LMc5.out; omega); intro v563 w7 ho hb hg hat; rw [← Ny562.out] at ho; have n0_ := Aside0.mk (hb); have n1_ := Aside0.mk (ho); clear HB; clear HO_3; clear HO561; have HB := n0_; have HO564 := n1_; clear n0_ n1_; clear ho hb hg hat))
      go_roundg k1
      case measure => have := HK1.out; omega
      case rel => exact ⟨(y562), (wrap64 (x4_1 + 1)), (by first | rfl | (simp; done) | (simp [*]; done)), H', ⟨by have := HK1.out; omega⟩, ⟨by (with_reducible repeat (first | apply Kd.S_alloc | apply Kd.S_drewN | apply Kd.S_drew)); exact HO564.out⟩, ⟨bB0⟩⟩
     ·rw [if_neg c5] at H
      exact absurd H (by simp)
    ·rw [if_neg c3] at H
     exact absurd H (by simp)
   ·rw [if_neg c2] at H
    have c2b0 : decide (x4_1 < (l0.length : Int)) = false := decide_eq_false c2
    clear c2
    obtain rfl := Option.some.inj H
    go_wp2
    go_ret
    exact ⟨_, eW, by (with_reducible repeat (first | apply Kd.S_alloc | apply Kd.S_drewN | apply Kd.S_drew)); exact HO_3.out, bB0⟩

end Go.Proofs.Ytghommaokdhjmaa.P
/- What SetsRise leans on beside the plain laws of sets: a set's two first facts exchanged, or its first one twice, is no set; a row's elements put behind another one's, read. -/
set_option linter.unusedVariables false
set_option linter.unusedSimpArgs false
namespace Go.Proofs.Ytghommaokdhjmaa.PRise
open Go.RowKit Go.Lib Go.Sort Go.Proofs.SymP Go.Proofs.YtghommaokdhjmaaW.PrintWords Go.Proofs.Ytghommaokdhjmaa.P Go.Proofs.Ytghommaokdhjmaa.Str Go.Proofs.Ytghommaokdhjmaa.CmpF Go.Proofs.Ytghommaokdhjmaa.Fct Go.Proofs.Ytghommaokdhjmaa.FactC Go.Proofs.Ytghommaokdhjmaa.SetsW Go.Proofs.Ytghommaokdhjmaa.PSets Go.Proofs.Ytghommaokdhjmaa.RefS
/-! ### An order that answers -1, 0 or 1 -/
theorem unit_ordI (a b : Int) : ordI a b = -1 ∨ ordI a b = 0 ∨ ordI a b = 1 := by unfold ordI; split <;> (try split) <;> simp
theorem unit_cb : ∀ a b : List UInt8, Lib.compareBytes a b = -1 ∨ Lib.compareBytes a b = 0 ∨ Lib.compareBytes a b = 1 := by
  intro a
  induction a with
  | nil => intro b; cases b <;> simp [Lib.compareBytes]
  | cons x a ih =>
    intro b
    cases b with
    | nil => simp [Lib.compareBytes]
    | cons y b =>
      simp only [Lib.compareBytes]
      split
      · simp
      · split
        · simp
        · exact ih b
theorem unit_cmpS (a b : ByteArray) : cmpS a b = -1 ∨ cmpS a b = 0 ∨ cmpS a b = 1 := unit_cb _ _
theorem unit_orL : ∀ l : List Int, (∀ x ∈ l, x = -1 ∨ x = 0 ∨ x = 1) → orL l = -1 ∨ orL l = 0 ∨ orL l = 1
  | [], _ => by simp [orL]
  | x :: l, h => by
    unfold orL
    split
    · exact h x List.mem_cons_self
    · exact unit_orL l (fun y hy => h y (List.mem_cons_of_mem _ hy))
theorem unit_cmpV (x y : S24) : cmpV x y = -1 ∨ cmpV x y = 0 ∨ cmpV x y = 1 := unit_orL _ (by
  intro z hz
  simp only [List.mem_cons, List.not_mem_nil, or_false] at hz
  rcases hz with rfl | rfl | rfl
  · exact unit_ordI _ _
  · exact unit_ordI _ _
  · exact unit_cmpS _ _)
theorem unit_cmpL : ∀ l m : List S24, compareL l m = -1 ∨ compareL l m = 0 ∨ compareL l m = 1
  | [], [] => by simp [compareL]
  | [], _ :: _ => by simp [compareL]
  | _ :: _, [] => by simp [compareL]
  | x :: l, y :: m => by
    rw [compareL]
    split
    · exact unit_cmpL l m
    · exact unit_cmpV x y
theorem unit_cf (x y : S53) : cf53 x y = -1 ∨ cf53 x y = 0 ∨ cf53 x y = 1 := unit_orL _ (by
  intro z hz
  simp only [List.mem_cons, List.not_mem_nil, or_false] at hz
  rcases hz with rfl | rfl | rfl
  · exact unit_cmpS _ _
  · exact unit_ordI _ _
  · exact unit_cmpL _ _)
theorem cf_less {x y : S53} (h : cf53 x y < 0) : cf53 x y = -1 := by have := unit_cf x y; omega
/-! ### No sets -/
theorem turned_no {x y : S53} {l : List S53} (h : IsSet (x :: y :: l)) : chkF (y :: x :: l) = 1 := chkF_ne fun h2 => by
  have h3 := (List.pairwise_cons.1 h.2).1 y List.mem_cons_self
  have h4 := (List.pairwise_cons.1 h2.2).1 x List.mem_cons_self
  have := ord53.swap x y
  omega
theorem twice_no (x : S53) (l : List S53) : chkF (x :: x :: l) = 1 := chkF_ne fun h2 => by
  have h4 := (List.pairwise_cons.1 h2.2).1 x List.mem_cons_self
  rw [ord53.self] at h4
  omega
theorem put_no {l : List S53} {y : S53} (hl : fitL l = true) (hy : fitX y = true) (h : chkF l = 1) : sets_Put.f l y.f0 y.f1 = some ([], 1) := by
  unfold sets_Put.f
  rw [if_pos ⟨hl, hy⟩]
  have : ¬ chk2 l [y] = 0 := by
    unfold chk2
    rw [if_neg (fun h2 => by rw [h] at h2; exact absurd h2.1 (by decide))]
    decide
  show some (if chk2 l [y] = 0 then (setO cf53 (l ++ [y]), (0 : Int)) else ([], 1)) = _
  rw [if_neg this]
theorem both_no {l m : List S53} (hl : fitL l = true) (hm : fitL m = true) (h : chkF m = 1) : sets_Both.f l m = some ([], 1) := by
  unfold sets_Both.f
  rw [if_pos ⟨hl, hm⟩]
  have : ¬ chk2 l m = 0 := by
    unfold chk2
    rw [if_neg (fun h2 => by rw [h] at h2; exact absurd h2.2 (by decide))]
    decide
  rw [if_neg this]
/-! ### Twins -/
theorem twinF_loop (l : List S53) (hf : ∀ x ∈ l, x.f1.length ≤ 1000000) (hl : l.length ≤ 1000000) : ∀ (m i : Nat), i + m = l.length → Ev (fun k => constablekeep_TwinFacts.l0 k l (l.take i) i) l := by
  intro m
  induction m with
  | zero =>
    intro i h
    refine Ev.step (fun k => by rw [constablekeep_TwinFacts.l0, if_neg (by omega)]) ?_
    rw [List.take_of_length_le (by omega)]
    exact Ev.now _
  | succ m ih =>
    intro i h
    have hi : i < l.length := by omega
    have hx := hf l[i] (List.getElem_mem hi)
    have ht : constablekeep_TwinFact.f (rd_T53 l i).f0 (rd_T53 l i).f1 = some (l[i].f0, l[i].f1) := by
      rw [rd53_get hi]
      unfold constablekeep_TwinFact.f
      rw [if_pos (by simp only [List.length_nil]; omega)]
      simp
    refine Ev.step (f := fun k => constablekeep_TwinFacts.l0 k l (l.take (i + 1)) ((i + 1 : Nat) : Int)) (fun k => ?_) (ih (i + 1) (by omega))
    rw [constablekeep_TwinFacts.l0, if_pos (by omega), if_pos (by omega), ht]
    simp only [Option.bind_some]
    rw [if_pos (by rw [List.length_take]; omega), show l.take i ++ [(⟨l[i].f0, l[i].f1⟩ : S53)] = l.take (i + 1) by rw [List.take_succ_eq_append_getElem hi], w64s (by omega)]
theorem twinF_ev (l : List S53) (h : fitL l = true) : Ev (fun k => constablekeep_TwinFacts.f k l) l := by
  have h2 := fitL_F h
  have h := twinF_loop l (fitF_mem.1 h2.1) (by omega) l.length 0 (by omega)
  simpa only [constablekeep_TwinFacts.f, List.take_zero, Int.natCast_zero] using h
/-! ### A row's elements put behind another one's, read -/
theorem appendC {W0 W : World} (b : Nat) (u : Value) (xs ys : List S53) (A : Option Addr) (c : Nat) (hu : Kd.S k53 53 W b (fun _ => True) u xs) (hC : Kd.C k53 W0 A ys.length ys) (hW : Go.RowKit.Below W0.heap.size W0 W) (hb0 : W0.heap.size ≤ b) (hb : b ≤ W.heap.size) (hl : xs.length + ys.length ≤ 1000000) (hy : 0 < ys.length) :
    ∃ A' c' w', (∀ ty, (Builtin.append_ #[46, 46] ty #[u, .slice A ys.length c]).run Try.prog W = .ok (.slice A' (xs ++ ys).length c') w') ∧ Row w' A' (xs ++ ys).length c' (xs ++ ys) ∧ Go.RowKit.Below b W w' := by
  obtain ⟨i, hi, hz, hsz, hby⟩ := infoF
  have ht : Try.prog.underlying 46 = some (.slice 53) := SortF.lays.tS
  obtain ⟨_, hu0, ui, uo, ur⟩ := hu
  rw [List.length_zipIdx] at uo
  obtain ⟨ad, rfl, _⟩ := hC.2.2 hy
  obtain ⟨news, hnr, hnc⟩ := ReadsRow.inner_ hC
  have hnl : news.length = ys.length * 2 := hnr.1
  have hone : ∀ x ∈ news, x.oneCell' = true := by
    intro x hx
    obtain ⟨j, hj, rfl⟩ := List.getElem_of_mem hx
    obtain ⟨p, hp⟩ : ∃ p, ys[j / 2]? = some p := ⟨_, List.getElem?_eq_getElem (by omega)⟩
    refine k53.K_one (hnr.2 _ p hp) _ ?_
    show news[j] ∈ (news.drop (j / 2 * 2)).take 2
    rw [List.mem_iff_getElem?]
    refine ⟨j % 2, ?_⟩
    rw [List.getElem?_take, if_pos (Nat.mod_lt _ (by decide)), List.getElem?_drop, show j / 2 * 2 + j % 2 = j by omega, List.getElem?_eq_getElem hj]
  obtain ⟨u', w', hr, ho, hg, _, hat⟩ := run_append_own_at (P := Try.prog) W b 46 0 53 i _ 2 40 ht hi hz hsz hby (by rfl) (by decide) u xs.length ui uo ad ys.length c news hnl (fun j v hv => (hW.cell (World.block_lt_of_cell? W0 _ (hnc j v hv))).trans (hnc j v hv)) hone (by unfold maxLen; omega) (by omega) hb
  have hbw : Go.RowKit.Below b W w' := (Go.RowKit.Below.refl b W).grown hg hb (fun k hk => (uo.lt k hk).1)
  have hxs : Reps (k53.K w') 2 xs ui := ⟨uo.1, fun j p hj => by
    have hM : k53.M W b _ p ((ui.drop (j * 2)).take 2) := ur.2 j (p, j) (Kd.zip_at hj)
    exact k53.K_of_M (Kd.M_grown hM hg (fun k hk => hk.1.2))⟩
  have hys : Reps (k53.K w') 2 ys news := hnr.imp_ (fun p cs hp => k53.K_below (hW.trans (hbw.mono hb0)) hp)
  obtain ⟨A', c', rfl, hR⟩ := own_reads_row ho (Kd.reps_append hxs hys) (List.length_append)
  have hcap : xs.length + ys.length ≤ c' := own_le ho
  rw [List.length_append]
  exact ⟨A', c', w', fun ty => hr, ⟨hcap, hR⟩, hbw⟩
end Go.Proofs.Ytghommaokdhjmaa.PRise
namespace Go.Proofs.Ytghommaokdhjmaa.P
open Go.RowKit Go.Proofs.YtghommaokdhjmaaW.PrintWords Go.Proofs.YtghommaokdhjmaaW.PrintLast Go.Proofs.Ytghommaokdhjmaa.Gate
set_option linter.unusedVariables false
set_option linter.unusedSimpArgs false

/-! ### constableref01_Has: function 43 -/
def constableref01_Has.l0 : Nat → List (S53) → Int → ByteArray → List (S24) → Option (Bool)
 | 0, _, _, _, _ => none
 | k + 1, x0, x5, x566000, x566001 => if x5 < (x0.length : Int) then (if 0 ≤ x5 then ((constablekeep_Fact.f k ((rd_T53 x0 x5).f0) ((rd_T53 x0 x5).f1) x566000 x566001).bind fun t567 => (if t567 = true then (some true) else (constableref01_Has.l0 k x0 (wrap64 (x5 + 1)) x566000 x566001))) else (none)) else (some false)
def constableref01_Has.f (k : Nat) (l0 : List (S53)) (a1_0 : ByteArray) (l1_1 : List (S24)) : Option (Bool) := constableref01_Has.l0 k l0 0 a1_0 l1_1
theorem constableref01_Has.mono_l : ∀ k, (∀ y0 y1 y2 y3, LeO (constableref01_Has.l0 k y0 y1 y2 y3) (constableref01_Has.l0 (k + 1) y0 y1 y2 y3))
 | 0 => fun _ _ _ _ r h => by simp [constableref01_Has.l0] at h
 | k + 1 => by
  have ih0 := constableref01_Has.mono_l k
  ·intro y0 y1 y2 y3
   unfold constableref01_Has.l0
   repeat' first
   | (with_reducible exact ih0 _ _ _ _)
   | (with_reducible exact constablekeep_Fact.mono _ _ _ _ _)
   | (with_reducible exact LeO.refl _)
   | (with_reducible exact LeO.none _)
   | (with_reducible refine LeO.ite ?_ ?_)
   | (with_reducible refine LeO.bind ?_ (fun _ => ?_))
theorem constableref01_Has.mono : ∀ a0 a1 a2 k, LeO (constableref01_Has.f k a0 a1 a2) (constableref01_Has.f (k + 1) a0 a1 a2) := by
 intro a0 a1 a2 k
 have ih0 := constableref01_Has.mono_l k
 unfold constableref01_Has.f
 repeat' first
   | (with_reducible exact ih0 _ _ _ _)
   | (with_reducible exact constablekeep_Fact.mono _ _ _ _ _)
   | (with_reducible exact LeO.refl _)
   | (with_reducible exact LeO.none _)
   | (with_reducible refine LeO.ite ?_ ?_)
   | (with_reducible refine LeO.bind ?_ (fun _ => ?_))
set_option maxHeartbeats 8000000 in
set_option maxRecDepth 100000 in
theorem constableref01_Has.calls (k : Nat) (A0 : Option Addr) (c0 : Nat) (l0 : List (S53)) (a1_0 : ByteArray) (A1_1 : Option Addr) (c1_1 : Nat) (l1_1 : List (S24)) (r : Bool) (w : World) (hr0 : Kd.C k53 w A0 l0.length l0) (hc0 : l0.length ≤ c0) (hr1_1 : Kd.C k24 w A1_1 l1_1.length l1_1) (hc1_1 : l1_1.length ≤ c1_1) (h : constableref01_Has.f k l0 a1_0 l1_1 = some r) :
  Calls Try.prog 43 #[.slice A0 l0.length c0, .agg #[.string a1_0, .slice A1_1 l1_1.length c1_1]] w fun e w' => e = .returned (.bool r) ∧ Below w.heap.size w w' := by
 have hu53 := Try.underlying53
 have HR0 := Aside0.mk hr0
 have HC0 := Aside0.mk hc0
 clear hr0 hc0
 have HR1_1 := Aside0.mk hr1_1
 have HC1_1 := Aside0.mk hc1_1
 clear hr1_1 hc1_1
 have HB := Aside0.mk (Below.refl w.heap.size w)
 have H : (constableref01_Has.l0 k l0 0 a1_0 l1_1) = some r := h
 clear h
 have H' := Aside0.mk H
 clear H
 go_enter Try.func43, Try.ntmps43
 go_wp2_with (first | ((with_reducible refine gate_dst (N := 3) rfl ?_); refine bE (N := 3) (cs := #[.string a1_0, .slice A1_1 l1_1.length c1_1]) (t := 53) ?_; intro gb565 hg w3 hbox hb; have n0_ := Aside0.mk (below_step bB0 hb); have n1_ := Aside0.mk (hbox); have n2_ := Aside0.mk ((by rw [hg]; exact (below_size bB0) : w.heap.size ≤ gb565)); have n3_ := Aside0.mk ((by rw [hg]; exact (below_size bB0) : w.heap.size ≤ gb565)); clear HB; have HB := n0_; have BK565 := n1_; have GW565 := n2_; have GE565 := n3_; clear n0_ n1_ n2_ n3_; clear hb hbox hg))
 go_loopg [5] k (fun kq v5 w' => ∃ (x5_1 : Int), v5 = .int .i64 x5_1 ∧ Aside0 (constableref01_Has.l0 kq l0 x5_1 a1_0 l1_1 = some r) ∧ Aside0 (kq ≤ k) ∧ Aside0 (w'.heap[gb565]? = some (.cells #[.string a1_0, (.slice A1_1 l1_1.length c1_1)] 53 (0, 0))) ∧ Aside0 (Below w.heap.size w w'))
 case atStart => exact ⟨(0), (by first | rfl | (simp; done) | (simp [*]; done)), H', ⟨Nat.le_refl _⟩, ⟨by refine bk ?_; exact BK565.out⟩, ⟨(bB1 GE565.out)⟩⟩
 case round =>
  clear H'
  (try clear c1); (try clear p2)
  obtain ⟨x5_1, rfl, HA, HK1, BK565, HB⟩ := hrel
  cases gk with
  | zero => exact absurd HA.out (by simp [constableref01_Has.l0])
  | succ k1 =>
   have H := HA.out
   clear HA
   simp only [constableref01_Has.l0] at H
   by_cases c4 : x5_1 < (l0.length : Int)
   ·rw [if_pos c4] at H
    have c4b0 : decide (x5_1 < (l0.length : Int)) = true := decide_eq_true c4
    clear c4
    by_cases c5 : 0 ≤ x5_1
    ·rw [if_pos c5] at H
     have c5b0 : decide (0 ≤ x5_1) = true := decide_eq_true c5
     clear c5
     replace H := Option.bind_eq_some_iff.mp H
     obtain ⟨t567, A60, H⟩ := H
     replace H : (if t567 = true then (some true) else (constableref01_Has.l0 k1 l0 (wrap64 (x5_1 + 1)) a1_0 l1_1)) = some r := H
     have A6 := Aside0.mk A60
     clear A60
     by_cases c7 : t567 = true
     ·subst c7
      have H1 : (some true) = some r := by rw [if_pos rfl] at H; exact H
      clear H
      have H := H1
      clear H1
      obtain rfl := Option.some.inj H
      try go_wp2
      have n0_ := Aside0.mk (blk_drew BK565.out)
      have n1_ := Aside0.mk (below_drew1 HB.out)
      clear BK565
      clear HB
      have BK565 := n0_
      have HB := n1_
      clear n0_ n1_
      have p566 : 0 ≤ (x5_1 : Int) := of_decide_eq_true (by first | (with_reducible assumption) | assumption)
      have q566 : x5_1 < (l0.length : Int) := of_decide_eq_true (by first | (with_reducible assumption) | assumption)
      obtain ⟨ad566, A566_1, c566_1, e566, hx566_0, hx566_1, hl566_1, hi566_1⟩ := at_T53 HR0.out x5_1 p566 q566
      have hw566_1 := hx566_1
      have hw566_0 := hx566_0
      cases e566
      have HZ566_1 := Aside0.mk hx566_1
      replace hx566_0 := (HB.out.cell (World.block_lt_of_cell? w _ hx566_0)).trans hx566_0
      replace hx566_1 := (HB.out.cell (World.block_lt_of_cell? w _ hx566_1)).trans hx566_1
      have HR566_1 := Aside0.mk hi566_1
      have HC566_1 := Aside0.mk hl566_1
      clear hi566_1 hl566_1
      replace p566 := eq_true p566
      replace q566 := eq_true q566
      refine start_ (n := 6) (S := fun w' => w'.cell? ⟨gb565, 0, none⟩ = some (.string a1_0) ∧ w'.cell? ⟨gb565, 1, none⟩ = some (.slice A1_1 l1_1.length c1_1) ∧ w'.cell? (ad566.add ((x5_1).toNat * 2)) = some (.string ((rd_T53 l0 x5_1).f0)) ∧ w'.cell? ⟨(ad566.add ((x5_1).toNat * 2)).block, (ad566.add ((x5_1).toNat * 2)).off + 1, none⟩ = some (.slice A566_1 ((rd_T53 l0 x5_1).f1).length c566_1)) (ds := []) #[false, false, false, false, false, false] (by kernel_rfl) rfl rfl ⟨(blk_cell BK565.out 0).trans rfl, (blk_cell BK565.out 1).trans rfl, ((HB.out.cell (World.block_lt_of_cell? w _ hw566_0)).trans hw566_0), ((HB.out.cell (World.block_lt_of_cell? w _ hw566_1)).trans hw566_1)⟩ (fun hHeld => ?_)
      generalize wr.drew = w8 at BK565 HB HR566_1 hx566_0 hx566_1 hHeld ⊢
      refine pure_ (i := 0) (N := some 12) (v := ?_) (a' := ?_) (bb 6 1) rfl rfl (by kernel_rfl) (fun _ _ _ h => h) (Or.inl ⟨by rfl, ?_⟩) ?_ ?_
      rotate_left
      ·intro w'
       go_simp
       with_reducible rfl
      rotate_left
      ·simp only [Act.put, List.setIfInBounds_toArray, List.set_cons_zero, List.set_cons_succ, i64_w, i32_w]
       rfl
      refine pure_ (i := 1) (N := some 13) (v := ?_) (a' := ?_) (bb 6 3) rfl rfl (by kernel_rfl) (fun _ _ _ h => h) (Or.inl ⟨by rfl, ?_⟩) ?_ ?_
      rotate_left
      ·intro w'
       go_simp
       with_reducible rfl
      rotate_left
      ·simp only [Act.put, List.setIfInBounds_toArray, List.set_cons_zero, List.set_cons_succ, i64_w, i32_w]
       rfl
      refine pure_ (i := 2) (N := some 14) (v := ?_) (a' := ?_) (bb 6 7) rfl rfl (by kernel_rfl) (fun _ _ _ h => h) (Or.inl ⟨by rfl, ?_⟩) ?_ ?_
      rotate_left
      ·intro w'
       go_simp
       with_reducible rfl
      rotate_left
      ·simp only [Act.put, List.setIfInBounds_toArray, List.set_cons_zero, List.set_cons_succ, i64_w, i32_w]
       rfl
      refine take_ (i := 3) (N := some 15) (v := ?_) (a' := ?_) (bb 6 15) rfl rfl (by kernel_rfl) (fun _ _ _ h => h) (Or.inl ⟨by rfl, ?_⟩) hHeld ?_ ?_
      rotate_left
      ·rintro w' ⟨s0, s1, s2, s3⟩
       go_simp
       with_reducible rfl
      rotate_left
      ·simp only [Act.put, List.setIfInBounds_toArray, List.set_cons_zero, List.set_cons_succ, i64_w, i32_w]
       rfl
      refine take_ (i := 4) (N := some 16) (v := ?_) (a' := ?_) (bb 6 31) rfl rfl (by kernel_rfl) (fun _ _ _ h => h) (Or.inl ⟨by rfl, ?_⟩) hHeld ?_ ?_
      rotate_left
      ·rintro w' ⟨s0, s1, s2, s3⟩
       go_simp
       with_reducible rfl
      rotate_left
      ·simp only [Act.put, List.setIfInBounds_toArray, List.set_cons_zero, List.set_cons_succ, i64_w, i32_w]
       rfl
      refine one_ (i := 5) (N := some 17) (bb 6 63) rfl rfl (by kernel_rfl) (by decide) (fun K hK => ?_)
      refine goes_ Try.func40 (by kernel_rfl) rfl #[.agg #[.string ((rd_T53 l0 x5_1).f0), .slice A566_1 ((rd_T53 l0 x5_1).f1).length c566_1], .agg #[.string a1_0, .slice A1_1 l1_1.length c1_1]] (by rfl) rfl rfl aG ?_
      with_reducible refine (constablekeep_Fact.calls k1 ((rd_T53 l0 x5_1).f0) _ _ ((rd_T53 l0 x5_1).f1) a1_0 _ _ l1_1 true _ ?side1 ?side2 ?side3 ?side4 A6.out).mono ?_
      (case side1 => exact sC (Kd.C_below HR566_1.out HB.out))
      (case side2 => exact HC566_1.out)
      (case side3 => exact sC (Kd.C_below HR1_1.out HB.out))
      (case side4 => exact HC1_1.out)
      rintro e w9 ⟨rfl, hb⟩
      refine ⟨_, rfl, ?_⟩
      have n0_ := Aside0.mk (blk_below (g := gb565) (o := .cells #[.string a1_0, .slice A1_1 l1_1.length c1_1] 53 (0, 0)) (by refine bk ?_; exact BK565.out) hb)
      have n1_ := Aside0.mk (below_step (bB1 GE565.out) hb)
      clear BK565
      clear HB
      have BK565 := n0_
      have HB := n1_
      clear n0_ n1_
      (try clear hb)
      (try clear hb2)
      (try clear hk)
      (try clear hi)
      refine hK.out _ _ ⟨(blk_cell BK565.out 0).trans rfl, (blk_cell BK565.out 1).trans rfl, ((HB.out.cell (World.block_lt_of_cell? w _ hw566_0)).trans hw566_0), ((HB.out.cell (World.block_lt_of_cell? w _ hw566_1)).trans hw566_1)⟩ (fun hHeld => ?_)
      clear hK K
      refine norm_ (a' := ?_) ?_ ?_
      rotate_left
      ·show Act.put _ (some 17) _ = _
       simp only [Act.put, List.setIfInBounds_toArray, List.set_cons_zero, List.set_cons_succ, i64_w, i32_w]
       rfl
      refine done_ (by kernel_rfl) ?_
      try go_wp2
      go_ret
      exact ⟨eW, (bB1 GE565.out)⟩
     ·replace c7 := Bool.eq_false_iff.mpr c7
      subst c7
      have H1 : (constableref01_Has.l0 k1 l0 (wrap64 (x5_1 + 1)) a1_0 l1_1) = some r := by rw [if_neg (show ¬ (false = true) by decide)] at H; exact H
      clear H
      have H := H1
      clear H1
      have H' := Aside0.mk H
      clear H
      try go_wp2
      have n0_ := Aside0.mk (blk_drew BK565.out)
      have n1_ := Aside0.mk (below_drew1 HB.out)
      clear BK565
      clear HB
      have BK565 := n0_
      have HB := n1_
      clear n0_ n1_
      have p566 : 0 ≤ (x5_1 : Int) := of_decide_eq_true (by first | (with_reducible assumption) | assumption)
      have q566 : x5_1 < (l0.length : Int) := of_decide_eq_true (by first | (with_reducible assumption) | assumption)
      obtain ⟨ad566, A566_1, c566_1, e566, hx566_0, hx566_1, hl566_1, hi566_1⟩ := at_T53 HR0.out x5_1 p566 q566
      have hw566_1 := hx566_1
      have hw566_0 := hx566_0
      cases e566
      have HZ566_1 := Aside0.mk hx566_1
      replace hx566_0 := (HB.out.cell (World.block_lt_of_cell? w _ hx566_0)).trans hx566_0
      replace hx566_1 := (HB.out.cell (World.block_lt_of_cell? w _ hx566_1)).trans hx566_1
      have HR566_1 := Aside0.mk hi566_1
      have HC566_1 := Aside0.mk hl566_1
      clear hi566_1 hl566_1
      replace p566 := eq_true p566
      replace q566 := eq_true q566
      refine start_ (n := 6) (S := fun w' => w'.cell? ⟨gb565, 0, none⟩ = some (.string a1_0) ∧ w'.cell? ⟨gb565, 1, none⟩ = some (.slice A1_1 l1_1.length c1_1) ∧ w'.cell? (ad566.add ((x5_1).toNat * 2)) = some (.string ((rd_T53 l0 x5_1).f0)) ∧ w'.cell? ⟨(ad566.add ((x5_1).toNat * 2)).block, (ad566.add ((x5_1).toNat * 2)).off + 1, none⟩ = some (.slice A566_1 ((rd_T53 l0 x5_1).f1).length c566_1)) (ds := []) #[false, false, false, false, false, false] (by kernel_rfl) rfl rfl ⟨(blk_cell BK565.out 0).trans rfl, (blk_cell BK565.out 1).trans rfl, ((HB.out.cell (World.block_lt_of_cell? w _ hw566_0)).trans hw566_0), ((HB.out.cell (World.block_lt_of_cell? w _ hw566_1)).trans hw566_1)⟩ (fun hHeld => ?_)
      generalize wr.drew = w10 at BK565 HB HR566_1 hx566_0 hx566_1 hHeld ⊢
      refine pure_ (i := 0) (N := some 12) (v := ?_) (a' := ?_) (bb 6 1) rfl rfl (by kernel_rfl) (fun _ _ _ h => h) (Or.inl ⟨by rfl, ?_⟩) ?_ ?_
      rotate_left
      ·intro w'
       go_simp
       with_reducible rfl
      rotate_left
      ·simp only [Act.put, List.setIfInBounds_toArray, List.set_cons_zero, List.set_cons_succ, i64_w, i32_w]
       rfl
      refine pure_ (i := 1) (N := some 13) (v := ?_) (a' := ?_) (bb 6 3) rfl rfl (by kernel_rfl) (fun _ _ _ h => h) (Or.inl ⟨by rfl, ?_⟩) ?_ ?_
      rotate_left
      ·intro w'
       go_simp
       with_reducible rfl
      rotate_left
      ·simp only [Act.put, List.setIfInBounds_toArray, List.set_cons_zero, List.set_cons_succ, i64_w, i32_w]
       rfl
      refine pure_ (i := 2) (N := some 14) (v := ?_) (a' := ?_) (bb 6 7) rfl rfl (by kernel_rfl) (fun _ _ _ h => h) (Or.inl ⟨by rfl, ?_⟩) ?_ ?_
      rotate_left
      ·intro w'
       go_simp
       with_reducible rfl
      rotate_left
      ·simp only [Act.put, List.setIfInBounds_toArray, List.set_cons_zero, List.set_cons_succ, i64_w, i32_w]
       rfl
      refine take_ (i := 3) (N := some 15) (v := ?_) (a' := ?_) (bb 6 15) rfl rfl (by kernel_rfl) (fun _ _ _ h => h) (Or.inl ⟨by rfl, ?_⟩) hHeld ?_ ?_
      rotate_left
      ·rintro w' ⟨s0, s1, s2, s3⟩
       go_simp
       with_reducible rfl
      rotate_left
      ·simp only [Act.put, List.setIfInBounds_toArray, List.set_cons_zero, List.set_cons_succ, i64_w, i32_w]
       rfl
      refine take_ (i := 4) (N := some 16) (v := ?_) (a' := ?_) (bb 6 31) rfl rfl (by kernel_rfl) (fun _ _ _ h => h) (Or.inl ⟨by rfl, ?_⟩) hHeld ?_ ?_
      rotate_left
      ·rintro w' ⟨s0, s1, s2, s3⟩
       go_simp
       with_reducible rfl
      rotate_left
      ·simp only [Act.put, List.setIfInBounds_toArray, List.set_cons_zero, List.set_cons_succ, i64_w, i32_w]
       rfl
      refine one_ (i := 5) (N := some 17) (bb 6 63) rfl rfl (by kernel_rfl) (by decide) (fun K hK => ?_)
      refine goes_ Try.func40 (by kernel_rfl) rfl #[.agg #[.string ((rd_T53 l0 x5_1).f0), .slice A566_1 ((rd_T53 l0 x5_1).f1).length c566_1], .agg #[.string a1_0, .slice A1_1 l1_1.length c1_1]] (by rfl) rfl rfl aG ?_
      with_reducible refine (constablekeep_Fact.calls k1 ((rd_T53 l0 x5_1).f0) _ _ ((rd_T53 l0 x5_1).f1) a1_0 _ _ l1_1 false _ ?side1 ?side2 ?side3 ?side4 A6.out).mono ?_
      (case side1 => exact sC (Kd.C_below HR566_1.out HB.out))
      (case side2 => exact HC566_1.out)
      (case side3 => exact sC (Kd.C_below HR1_1.out HB.out))
      (case side4 => exact HC1_1.out)
      rintro e w11 ⟨rfl, hb⟩
      refine ⟨_, rfl, ?_⟩
      have n0_ := Aside0.mk (blk_below (g := gb565) (o := .cells #[.string a1_0, .slice A1_1 l1_1.length c1_1] 53 (0, 0)) (by refine bk ?_; exact BK565.out) hb)
      have n1_ := Aside0.mk (below_step (bB1 GE565.out) hb)
      clear BK565
      clear HB
      have BK565 := n0_
      have HB := n1_
      clear n0_ n1_
      (try clear hb)
      (try clear hb2)
      (try clear hk)
      (try clear hi)
      refine hK.out _ _ ⟨(blk_cell BK565.out 0).trans rfl, (blk_cell BK565.out 1).trans rfl, ((HB.out.cell (World.block_lt_of_cell? w _ hw566_0)).trans hw566_0), ((HB.out.cell (World.block_lt_of_cell? w _ hw566_1)).trans hw566_1)⟩ (fun hHeld => ?_)
      clear hK K
      refine norm_ (a' := ?_) ?_ ?_
      rotate_left
      ·show Act.put _ (some 17) _ = _
       simp only [Act.put, List.setIfInBounds_toArray, List.set_cons_zero, List.set_cons_succ, i64_w, i32_w]
       rfl
      refine done_ (by kernel_rfl) ?_
      try go_wp2
      go_roundg k1
      case measure => have := HK1.out; omega
      case rel => exact ⟨(wrap64 (x5_1 + 1)), (by first | rfl | (simp; done) | (simp [*]; done)), H', ⟨by have := HK1.out; omega⟩, ⟨by refine bk ?_; exact BK565.out⟩, ⟨(bB1 GE565.out)⟩⟩
    ·rw [if_neg c5] at H
     exact absurd H (by simp)
   ·rw [if_neg c4] at H
    have c4b0 : decide (x5_1 < (l0.length : Int)) = false := decide_eq_false c4
    clear c4
    obtain rfl := Option.some.inj H
    go_wp2
    go_ret
    exact ⟨eW, (bB1 GE565.out)⟩

end Go.Proofs.Ytghommaokdhjmaa.P
/- The references' lists of facts: Put, Drop, Of by hand, Has by its print: what they answer, read in the world they leave. -/
set_option linter.unusedVariables false
set_option linter.unusedSimpArgs false
namespace Go.Proofs.Ytghommaokdhjmaa.RefP
open Go.Shelf Go.RowKit Go.Lib Go.Sort Go.Proofs.SymP Go.Proofs.YtghommaokdhjmaaW.PrintWords Go.Proofs.Ytghommaokdhjmaa.P Go.Proofs.Ytghommaokdhjmaa.Str Go.Proofs.Ytghommaokdhjmaa.CmpF Go.Proofs.Ytghommaokdhjmaa.Fct Go.Proofs.Ytghommaokdhjmaa.FactC Go.Proofs.Ytghommaokdhjmaa.SetsW Go.Proofs.Ytghommaokdhjmaa.PSets Go.Proofs.Ytghommaokdhjmaa.RefS Go.Proofs.Ytghommaokdhjmaa.PRise
/-! ### A row of the call's own whose elements were read in an elder world -/
def OwnR (W0 W : World) (b : Nat) (v : Value) (xs : List S53) : Prop := ∃ ui, W.ownsRow b 53 2 v xs.length ui ∧ Reps (k53.K W0) 2 xs ui
theorem OwnR.below {W0 W W' : World} {b : Nat} {v : Value} {xs : List S53} (h : OwnR W0 W b v xs) (hb : Go.RowKit.Below W.heap.size W W') : OwnR W0 W' b v xs := by
  obtain ⟨ui, ho, hr⟩ := h
  exact ⟨ui, own_move ho (fun k hk => hb.block k (own_lt ho k hk)), hr⟩
theorem OwnR.start (W0 W : World) (b : Nat) : OwnR W0 W b (.slice none ([] : List S53).length 0) [] := ⟨[], own_nil W b _ 2, rfl, fun j p h => by simp at h⟩
theorem OwnR.row {W0 W : World} {b : Nat} {A : Option Addr} {c : Nat} {xs : List S53} (h : OwnR W0 W b (.slice A xs.length c) xs) (hb : Go.RowKit.Below W0.heap.size W0 W) : Row W A xs.length c xs := by
  obtain ⟨ui, ho, hr⟩ := h
  have hcap : xs.length ≤ c := own_le ho
  obtain ⟨A', c', e, hR⟩ := own_reads_row ho (hr.imp_ (fun p cs hp => k53.K_below hb hp)) rfl
  injection e with e1 e2 e3
  subst e1
  exact ⟨hcap, hR⟩
theorem appendR {W0 W : World} (b : Nat) (u : Value) (xs : List S53) (x : S53) (A : Option Addr) (c B : Nat) (h : OwnR W0 W b u xs) (hB : B = W.heap.size) (hx : k53.K W0 x [.string x.f0, .slice A x.f1.length c]) (hb : b ≤ W.heap.size) (hl : xs.length ≤ 1000000) :
    ∃ A' c' w', (∀ ty, (Builtin.append_ #[46, 46] ty #[u, .slice (some ⟨B, 0, none⟩) 1 1]).run Try.prog (W.alloc (.cells #[.string x.f0, .slice A x.f1.length c] 53)) = .ok (.slice A' (xs.length + 1) c') w') ∧ OwnR W0 w' b (.slice A' (xs.length + 1) c') (xs ++ [x]) ∧ Go.RowKit.Below b W w' := by
  subst hB
  obtain ⟨i, hi, hz, hsz, hby⟩ := infoF
  have ht : Try.prog.underlying 46 = some (.slice 53) := SortF.lays.tS
  obtain ⟨ui, uo, ur⟩ := h
  have uo' := own_alloc uo (.cells #[.string x.f0, .slice A x.f1.length c] 53)
  have hb' : b ≤ (W.alloc (.cells #[.string x.f0, .slice A x.f1.length c] 53)).heap.size := by simp; omega
  obtain ⟨u', w', hr, ho, hg, _, hat⟩ := run_append_own_at (P := Try.prog) _ b 46 0 53 i _ 2 40 ht hi hz hsz hby (by rfl) (by decide) u xs.length ui uo' ⟨W.heap.size, 0, none⟩ 1 1 [.string x.f0, .slice A x.f1.length c] rfl (fun j v hv => by
    rcases j with _ | _ | j
    · obtain rfl : Value.string x.f0 = v := by simpa using hv
      simp [Addr.add]
    · obtain rfl : Value.slice A x.f1.length c = v := by simpa using hv
      simp [Addr.add]
    · simp at hv) (fun v hv => by
    simp only [List.mem_cons, List.not_mem_nil, or_false] at hv
    rcases hv with rfl | rfl <;> rfl) (by unfold maxLen; omega) (by omega) hb'
  have hbw : Go.RowKit.Below b W w' := ((Go.RowKit.Below.refl b W).alloc hb _).grown hg hb' (fun k hk => (uo'.lt k hk).1)
  have hys : Reps (k53.K W0) 2 [x] [.string x.f0, .slice A x.f1.length c] := ⟨rfl, fun j p hj => by
    rcases j with _ | j
    · obtain rfl : x = p := by simpa using hj
      exact hx
    · simp at hj⟩
  obtain ⟨A', c', rfl⟩ := own_slice ho
  refine ⟨A', c', w', fun ty => hr, ⟨_, ?_, Kd.reps_append ur hys⟩, hbw⟩
  rw [show (xs ++ [x]).length = xs.length + 1 by simp]
  exact ho
/-! ### Has -/
theorem kfact_ev (x y : S53) (hl : x.f1.length ≤ 1000000) : Ev (fun k => constablekeep_Fact.f k x.f0 x.f1 y.f0 y.f1) (cf53 x y == 0) := by
  obtain ⟨b, h1, h2⟩ := fact_ev x y hl
  rwa [show (cf53 x y == 0) = b by
    rw [Bool.eq_iff_iff, beq_iff_eq, h2]
    exact ⟨fun h => ord53.zero x y h, fun h => by rw [h]; exact ord53.self y⟩]
theorem rhas_loop (l : List S53) (y : S53) (hf : ∀ x ∈ l, x.f1.length ≤ 1000000) (hl : l.length ≤ 1000000) : ∀ (m i : Nat), i + m = l.length → Ev (fun k => constableref01_Has.l0 k l i y.f0 y.f1) ((l.drop i).any fun x => cf53 x y == 0) := by
  intro m
  induction m with
  | zero =>
    intro i h
    refine Ev.step (fun k => by rw [constableref01_Has.l0, if_neg (by omega)]) ?_
    rw [List.drop_eq_nil_of_le (by omega)]
    exact Ev.now _
  | succ m ih =>
    intro i h
    have hi : i < l.length := by omega
    refine Ev.step (fun k => by rw [constableref01_Has.l0, if_pos (by omega), if_pos (by omega), rd53_get hi, w64s (by omega)]) ?_
    rw [List.drop_eq_getElem_cons hi, List.any_cons]
    refine Ev.bind (kfact_ev l[i] y (hf _ (List.getElem_mem hi))) ?_
    cases (cf53 l[i] y == 0)
    · simp only [Bool.false_eq_true, if_false, Bool.false_or]; exact ih (i + 1) (by omega)
    · simp only [if_true, Bool.true_or]; exact Ev.now _
theorem rhas_ev (l : List S53) (y : S53) (h : fitL l = true) : Ev (fun k => constableref01_Has.f k l y.f0 y.f1) (l.any fun x => cf53 x y == 0) := by
  have h2 := fitL_F h
  have := rhas_loop l y (fitF_mem.1 h2.1) (by omega) l.length 0 (by omega)
  simpa only [constableref01_Has.f, List.drop_zero, Int.natCast_zero] using this
/-! ### Put -/
def insG (y : S53) : List S53 → List S53
  | [] => [y]
  | x :: l => if cf53 y x < 0 then y :: x :: l else x :: insG y l
def rput (l : List S53) (y : S53) : List S53 := if (l.any fun x => cf53 x y == 0) = true then l else insG y l
set_option maxHeartbeats 8000000 in
set_option maxRecDepth 1000000 in
theorem rPut_calls (A0 : Option Addr) (c0 : Nat) (l0 : List (S53)) (y : S53) (A1 : Option Addr) (c1 : Nat) (w : World) (hr0 : Kd.C k53 w A0 l0.length l0) (hc0 : l0.length ≤ c0) (hr1 : Kd.C k24 w A1 y.f1.length y.f1) (hc1 : y.f1.length ≤ c1) (hl : fitL l0 = true) (hy : fitX y = true) :
    Calls Try.prog 45 #[.slice A0 l0.length c0, .agg #[.string y.f0, .slice A1 y.f1.length c1]] w fun e w' => ∃ A c, e = .returned (.slice A (rput l0 y).length c) ∧ Row w' A (rput l0 y).length c (rput l0 y) ∧ Go.RowKit.Below w.heap.size w w' := by
  have hu := Try.underlying53
  have hB : Go.RowKit.Below w.heap.size w (w.alloc (.cells #[.string y.f0, .slice A1 y.f1.length c1] 53)) := (Go.RowKit.Below.refl _ w).alloc (Nat.le_refl _) _
  obtain ⟨k, hk⟩ := (rhas_ev l0 y hl).rounds
  have hH := Aside0.mk (constableref01_Has.calls k A0 c0 l0 y.f0 A1 c1 y.f1 _ _ (Kd.C_below hr0 hB) hc0 (Kd.C_below hr1 hB) hc1 hk)
  clear hk
  have hz0 : (w.alloc (.cells #[.string y.f0, .slice A1 y.f1.length c1] 53)).cell? ⟨w.heap.size, 0, none⟩ = some (.string y.f0) := by simp
  have hz1 : (w.alloc (.cells #[.string y.f0, .slice A1 y.f1.length c1] 53)).cell? ⟨w.heap.size, 1, none⟩ = some (.slice A1 y.f1.length c1) := by simp
  unfold rput
  cases hq : (l0.any fun x => cf53 x y == 0) with
  | true =>
    rw [hq] at hH
    simp only [if_true]
    have HR := Aside0.mk (And.intro hr0 (And.intro hc0 hB))
    clear hr0 hc0 hr1 hc1 hl hy hz0 hz1 hq hB
    go_enter Try.func45, Try.ntmps45
    go_wp2_with (go_at_call 43; with_reducible refine hH.out.mono ?_; rintro e w1 ⟨rfl, hb⟩; have HB := Aside0.mk hb; clear hb)
    go_ret
    have hbb := HR.out.2.2.trans (HB.out.mono HR.out.2.2.size)
    exact ⟨_, _, rfl, ⟨HR.out.2.1, Kd.C_below HR.out.1 hbb⟩, hbb⟩
  | false =>
    rw [hq] at hH
    simp only [Bool.false_eq_true, if_false]
    have KY := Aside0.mk (k53_mk w y hc1 hr1)
    have HR0 := Aside0.mk hr0
    have HR1 := Aside0.mk (And.intro hc1 hr1)
    have HBX := Aside0.mk hB
    have HL := Aside0.mk hl
    have HY := Aside0.mk hy
    have hn6 : l0.length ≤ 300000 := (fitL_iff.1 hl).2
    clear hr0 hc0 hr1 hc1 hl hy hq hB
    obtain ⟨n, hn⟩ : ∃ n, n = l0.length := ⟨_, rfl⟩
    rw [← hn] at hn6 hH ⊢
    have HN := Aside0.mk hn
    clear hn
    generalize hny : y.f1.length = ny at *
    have HNY := Aside0.mk hny
    clear hny
    go_enter Try.func45, Try.ntmps45
    go_wp2_with (go_at_call 43; with_reducible refine hH.out.mono ?_; rintro e w1 ⟨rfl, hb⟩; replace hz0 := (hb.cell (World.block_lt_of_cell? _ _ hz0)).trans hz0; replace hz1 := (hb.cell (World.block_lt_of_cell? _ _ hz1)).trans hz1; have HB := Aside0.mk (HBX.out.trans (hb.mono HBX.out.size)); clear hb hH)
    go_loopg [5, 6, 7] n (fun gg s5 s6 s7 wr => ∃ (A : Option Addr) (c : Nat) (xs : List S53) (inn : Bool) (j : Nat), s5 = .slice A xs.length c ∧ s6 = .bool inn ∧ s7 = .int .i64 j ∧ j ≤ n ∧ n - j ≤ gg ∧ Aside0 (xs.length ≤ 2 * j ∧ insG y l0 = xs ++ (if inn = true then l0.drop j else insG y (l0.drop j)) ∧ OwnR w wr w1.heap.size (.slice A xs.length c) xs ∧ Go.RowKit.Below w1.heap.size w1 wr))
    case atStart => exact ⟨none, 0, [], false, 0, rfl, rfl, rfl, Nat.zero_le _, Nat.le_refl _, ⟨by simp, by simp, OwnR.start _ _ _, Go.RowKit.Below.refl _ _⟩⟩
    case round =>
      obtain ⟨A, c, xs, inn, j, rfl, rfl, rfl, hj, hg, HI⟩ := hrel
      have hbr := HI.out.2.2.2
      have q0 := (hbr.cell (World.block_lt_of_cell? w1 _ hz0)).trans hz0
      have q1 := (hbr.cell (World.block_lt_of_cell? w1 _ hz1)).trans hz1
      clear hz0 hz1
      have HBw : Aside0 (Go.RowKit.Below w.heap.size w wr) := ⟨HB.out.trans (hbr.mono HB.out.size)⟩
      clear hbr
      by_cases hlt : j < n
      · have hltz : (j : Int) < (n : Int) := by omega
        obtain ⟨ad, A2, c2, eA, y0, y1, y2, y3⟩ := at_T53 (Kd.C_below HR0.out HBw.out) (j : Int) (by omega) (by rw [← HN.out]; omega)
        obtain ⟨ad', A3, c3, eA', x0, x1, x2, x3⟩ := at_T53 HR0.out (j : Int) (by omega) (by rw [← HN.out]; omega)
        subst eA
        obtain rfl : ad = ad' := by injection eA'
        have hj2 : j < l0.length := by rw [← HN.out]; exact hlt
        have hx0 := (HBw.out.cell (World.block_lt_of_cell? w _ x1)).trans x1
        rw [y1] at hx0
        injection hx0 with hx0
        injection hx0 with hx0 hx1 hx2
        subst hx0 hx2
        rw [rd53_get hj2] at y0 y1 y2 y3 x3
        have KX := Aside0.mk (k53_mk w l0[j] y2 x3)
        have hbl : (ad.add ((j : Int).toNat * 2)).block < w1.heap.size := Nat.lt_of_lt_of_le (World.block_lt_of_cell? w _ x0) HB.out.size
        clear x0 x1 x2 x3 eA'
        have hd : l0.drop j = l0[j] :: l0.drop (j + 1) := List.drop_eq_getElem_cons hj2
        have fx : fitX l0[j] = true := (fitL_iff.1 HL.out).1 _ (List.getElem_mem hj2)
        generalize l0[j] = x at *
        rw [show ((j : Int)).toNat * 2 = j * 2 by omega] at y0 y1 hbl
        have HI' : Aside0 (∀ q, OwnR w (wr.drewN q) w1.heap.size (.slice A xs.length c) xs ∧ Go.RowKit.Below w1.heap.size w1 (wr.drewN q)) := ⟨fun q => ⟨HI.out.2.2.1.below (pw_below_drewN (Go.RowKit.Below.refl _ _) q), pw_below_drewN HI.out.2.2.2 q⟩⟩
        cases inn with
        | true =>
          go_wp2_with fail
          go_quiet (fail)
          go_wp2_with ((at_builtin; obtain ⟨A', c', w6, happ, hO6, hb6⟩ := appendR w1.heap.size (.slice A xs.length c) xs x A2 c2 wr.heap.size (HI'.out nq).1 (by simp) KX.out (HI'.out nq).2.size (by have := HI.out.1; omega); refine Lib.wpList_append_run _ rfl _ _ _ _ rfl _ _ rfl rfl _ _ (happ _) ?_; have HO6 := Aside0.mk hO6; have HB6 := Aside0.mk hb6; clear hO6 hb6 happ))
          go_roundg (n - (j + 1))
          case measure => omega
          case rel => exact ⟨A', c', xs ++ [x], true, j + 1, by simp, rfl, by go_num, by omega, by omega, ⟨by have := HI.out.1; simp; omega, by rw [HI.out.2.1, hd]; simp, by simpa using HO6.out, (HI'.out nq).2.trans HB6.out⟩⟩
        | false =>
          have hd1 : Go.RowKit.Below wr.heap.size wr wr.drew := below_drew1 (Go.RowKit.Below.refl _ _)
          have hF : Aside0 (∀ W, Go.RowKit.Below wr.heap.size wr W → Calls Try.prog 73 #[.agg #[.string y.f0, .slice A1 ny c1], .agg #[.string x.f0, .slice A2 x.f1.length c2]] W fun e w' => e = .returned (.int .i64 (cf53 y x)) ∧ Go.RowKit.Below wr.heap.size wr w') := ⟨fun W hW => by
            obtain ⟨k, hk⟩ := (ev_rfacts y x HY.out).rounds
            have h1 := Kd.C_below HR1.out.2 (HBw.out.trans (hW.mono HBw.out.size))
            have h2 := HR1.out.1
            have h3 := HNY.out
            rw [← h3] at h1 h2 ⊢
            refine (constableref01_Facts.calls k y.f0 A1 c1 y.f1 x.f0 A2 c2 x.f1 _ W h1 h2 (Kd.C_below y3 hW) y2 hk).mono ?_
            rintro e w' ⟨rfl, hb⟩
            exact ⟨rfl, hW.trans (hb.mono hW.size)⟩⟩
          generalize hqq : cf53 y x = q at hF
          have HQ := Aside0.mk hqq
          clear hqq y2 y3
          by_cases hq : q < 0
          · have hins : insG y (x :: l0.drop (j + 1)) = y :: x :: l0.drop (j + 1) := by rw [insG, HQ.out, if_pos hq]
            have HD := Aside0.mk (And.intro hd hins)
            clear hd hins
            go_wp2_with fail
            go_region_held3 (fun w' => w'.cell? (ad.add (j * 2)) = some (.string x.f0) ∧ w'.cell? ⟨(ad.add (j * 2)).block, (ad.add (j * 2)).off + 1, none⟩ = some (.slice A2 x.f1.length c2) ∧ w'.cell? ⟨w.heap.size, 0, none⟩ = some (.string y.f0) ∧ w'.cell? ⟨w.heap.size, 1, none⟩ = some (.slice A1 ny c1))
              (first | go_keep | (refine ⟨?_, ?_, ?_, ?_⟩ <;> assumption))
              (first | (go_at_call 73; (with_reducible refine (hF.out _ hd1).mono ?_); rintro e w3 ⟨rfl, hb3⟩; have HI3 := Aside0.mk (And.intro (HI.out.2.2.1.below hb3) (HI.out.2.2.2.trans (hb3.mono HI.out.2.2.2.size))); replace y0 := (hb3.cell (World.block_lt_of_cell? wr _ y0)).trans y0; replace y1 := (hb3.cell (World.block_lt_of_cell? wr _ y1)).trans y1; replace q0 := (hb3.cell (World.block_lt_of_cell? wr _ q0)).trans q0; replace q1 := (hb3.cell (World.block_lt_of_cell? wr _ q1)).trans q1; clear hb3))
            go_wp2_with (at_builtin; first
              | (obtain ⟨A', c', w6, happ, hO6, hb6⟩ := appendR w1.heap.size (.slice A xs.length c) xs y A1 c1 w3.heap.size HI3.out.1 rfl (by rw [HNY.out]; exact KY.out) HI3.out.2.size (by have := HI.out.1; omega); rw [HNY.out] at happ; refine Lib.wpList_append_run _ rfl _ _ _ _ rfl _ _ rfl rfl _ _ (happ _) ?_; have HO6 := Aside0.mk hO6; replace y0 := (hb6.cell hbl).trans y0; replace y1 := (hb6.cell (p := ⟨(ad.add (j * 2)).block, (ad.add (j * 2)).off + 1, none⟩) hbl).trans y1; have HB6 := Aside0.mk (HI3.out.2.trans hb6); clear hO6 hb6 happ)
              | (obtain ⟨A7, c7, w7, happ, hO7, hb7⟩ := appendR w1.heap.size (.slice A' (xs.length + 1) c') (xs ++ [y]) x A2 c2 w6.heap.size HO6.out rfl KX.out HB6.out.size (by have := HI.out.1; simp; omega); rw [show (xs ++ [y]).length = xs.length + 1 by simp] at happ; refine Lib.wpList_append_run _ rfl _ _ _ _ rfl _ _ rfl rfl _ _ (happ _) ?_; have HO7 := Aside0.mk hO7; have HB7 := Aside0.mk (HB6.out.trans hb7); clear hO7 hb7 happ))
            go_roundg (n - (j + 1))
            case measure => omega
            case rel => exact ⟨A7, c7, xs ++ [y] ++ [x], true, j + 1, by simp, rfl, by go_num, by omega, by omega, ⟨by have := HI.out.1; simp; omega, by rw [HI.out.2.1, HD.out.1]; simp [HD.out.2], by simpa using HO7.out, HB7.out⟩⟩
          · have hins : insG y (x :: l0.drop (j + 1)) = x :: insG y (l0.drop (j + 1)) := by rw [insG, HQ.out, if_neg hq]
            have HD := Aside0.mk (And.intro hd hins)
            clear hd hins
            go_wp2_with fail
            go_region_held3 (fun w' => w'.cell? (ad.add (j * 2)) = some (.string x.f0) ∧ w'.cell? ⟨(ad.add (j * 2)).block, (ad.add (j * 2)).off + 1, none⟩ = some (.slice A2 x.f1.length c2) ∧ w'.cell? ⟨w.heap.size, 0, none⟩ = some (.string y.f0) ∧ w'.cell? ⟨w.heap.size, 1, none⟩ = some (.slice A1 ny c1))
              (first | go_keep | (refine ⟨?_, ?_, ?_, ?_⟩ <;> assumption))
              (first | (go_at_call 73; (with_reducible refine (hF.out _ hd1).mono ?_); rintro e w3 ⟨rfl, hb3⟩; have HI3 := Aside0.mk (And.intro (HI.out.2.2.1.below hb3) (HI.out.2.2.2.trans (hb3.mono HI.out.2.2.2.size))); replace y0 := (hb3.cell (World.block_lt_of_cell? wr _ y0)).trans y0; replace y1 := (hb3.cell (World.block_lt_of_cell? wr _ y1)).trans y1; replace q0 := (hb3.cell (World.block_lt_of_cell? wr _ q0)).trans q0; replace q1 := (hb3.cell (World.block_lt_of_cell? wr _ q1)).trans q1; clear hb3))
            go_wp2_with (at_builtin; (obtain ⟨A', c', w6, happ, hO6, hb6⟩ := appendR w1.heap.size (.slice A xs.length c) xs x A2 c2 w3.heap.size HI3.out.1 rfl KX.out HI3.out.2.size (by have := HI.out.1; omega); refine Lib.wpList_append_run _ rfl _ _ _ _ rfl _ _ rfl rfl _ _ (happ _) ?_; have HO6 := Aside0.mk hO6; have HB6 := Aside0.mk (HI3.out.2.trans hb6); clear hO6 hb6 happ))
            go_roundg (n - (j + 1))
            case measure => omega
            case rel => exact ⟨A', c', xs ++ [x], false, j + 1, by simp, rfl, by go_num, by omega, by omega, ⟨by have := HI.out.1; simp; omega, by rw [HI.out.2.1, HD.out.1]; simp [HD.out.2], by simpa using HO6.out, HB6.out⟩⟩
      · have hltz : ¬ (j : Int) < (n : Int) := by omega
        have hd : l0.drop j = [] := List.drop_eq_nil_of_le (by rw [← HN.out]; omega)
        have HI' : Aside0 (OwnR w wr w1.heap.size (.slice A xs.length c) xs ∧ Go.RowKit.Below w1.heap.size w1 wr) := ⟨HI.out.2.2⟩
        cases inn with
        | true =>
          have hx : insG y l0 = xs := by rw [HI.out.2.1, hd]; simp
          have HX := Aside0.mk hx
          clear hx hd
          go_wp2
          go_ret
          rw [HX.out]
          exact ⟨A, c, rfl, HI'.out.1.row HBw.out, HBw.out⟩
        | false =>
          have hx : insG y l0 = xs ++ [y] := by rw [HI.out.2.1, hd]; simp [insG]
          have HX := Aside0.mk hx
          have hlen : (xs ++ [y]).length = xs.length + 1 := by simp
          have HLN := Aside0.mk hlen
          clear hx hlen hd
          go_wp2_with (at_builtin; (obtain ⟨A', c', w6, happ, hO6, hb6⟩ := appendR w1.heap.size (.slice A xs.length c) xs y A1 c1 wr.heap.size HI'.out.1 rfl (by rw [HNY.out]; exact KY.out) HI'.out.2.size (by have := HI.out.1; omega); rw [HNY.out] at happ; refine Lib.wpList_append_run _ rfl _ _ _ _ rfl _ _ rfl rfl _ _ (happ _) ?_; have HO6 := Aside0.mk hO6; have HB6 := Aside0.mk (HI'.out.2.trans hb6); clear hO6 hb6 happ))
          go_ret
          have hbb := HB.out.trans (HB6.out.mono HB.out.size)
          rw [HX.out]
          exact ⟨A', c', by rw [HLN.out]; rfl, OwnR.row (by rw [HLN.out]; exact HO6.out) hbb, hbb⟩
end Go.Proofs.Ytghommaokdhjmaa.RefP
/- The references' lists of facts, on: Drop, Of; and what Put, Drop, Of answer over sets. -/
set_option linter.unusedVariables false
set_option linter.unusedSimpArgs false
namespace Go.Proofs.Ytghommaokdhjmaa.RefP
open Go.Shelf Go.RowKit Go.Lib Go.Sort Go.Proofs.SymP Go.Proofs.YtghommaokdhjmaaW.PrintWords Go.Proofs.Ytghommaokdhjmaa.P Go.Proofs.Ytghommaokdhjmaa.Str Go.Proofs.Ytghommaokdhjmaa.CmpF Go.Proofs.Ytghommaokdhjmaa.Fct Go.Proofs.Ytghommaokdhjmaa.FactC Go.Proofs.Ytghommaokdhjmaa.SetsW Go.Proofs.Ytghommaokdhjmaa.PSets Go.Proofs.Ytghommaokdhjmaa.RefS Go.Proofs.Ytghommaokdhjmaa.PRise
def rdrop (l : List S53) (y : S53) : List S53 := l.filter fun x => !(cf53 x y == 0)
set_option maxHeartbeats 8000000 in
set_option maxRecDepth 1000000 in
theorem rDrop_calls (A0 : Option Addr) (c0 : Nat) (l0 : List (S53)) (y : S53) (A1 : Option Addr) (c1 : Nat) (w : World) (hr0 : Kd.C k53 w A0 l0.length l0) (hc0 : l0.length ≤ c0) (hr1 : Kd.C k24 w A1 y.f1.length y.f1) (hc1 : y.f1.length ≤ c1) (hl : fitL l0 = true) :
    Calls Try.prog 46 #[.slice A0 l0.length c0, .agg #[.string y.f0, .slice A1 y.f1.length c1]] w fun e w' => ∃ A c, e = .returned (.slice A (rdrop l0 y).length c) ∧ Row w' A (rdrop l0 y).length c (rdrop l0 y) ∧ Go.RowKit.Below w.heap.size w w' := by
  have hu := Try.underlying53
  have hB : Go.RowKit.Below w.heap.size w (w.alloc (.cells #[.string y.f0, .slice A1 y.f1.length c1] 53)) := (Go.RowKit.Below.refl _ w).alloc (Nat.le_refl _) _
  obtain ⟨w1, hw1⟩ : ∃ w1, w1 = w.alloc (.cells #[.string y.f0, .slice A1 y.f1.length c1] 53) := ⟨_, rfl⟩
  have hz0 : w1.cell? ⟨w.heap.size, 0, none⟩ = some (.string y.f0) := by rw [hw1]; simp
  have hz1 : w1.cell? ⟨w.heap.size, 1, none⟩ = some (.slice A1 y.f1.length c1) := by rw [hw1]; simp
  rw [← hw1] at hB
  have HR0 := Aside0.mk hr0
  have HR1 := Aside0.mk (And.intro hc1 hr1)
  have HB := Aside0.mk hB
  have HL := Aside0.mk hl
  have hn6 : l0.length ≤ 300000 := (fitL_iff.1 hl).2
  clear hr0 hc0 hr1 hc1 hl hB
  obtain ⟨n, hn⟩ : ∃ n, n = l0.length := ⟨_, rfl⟩
  rw [← hn] at hn6 ⊢
  have HN := Aside0.mk hn
  clear hn
  generalize hny : y.f1.length = ny at *
  have HNY := Aside0.mk hny
  clear hny
  go_enter Try.func46, Try.ntmps46
  go_upto_region 2 with fail
  rw [← hw1]
  clear hw1
  go_wp2
  go_loopg [5, 6] n (fun gg s5 s6 wr => ∃ (A : Option Addr) (c : Nat) (xs : List S53) (j : Nat), s5 = .slice A xs.length c ∧ s6 = .int .i64 j ∧ j ≤ n ∧ n - j ≤ gg ∧ Aside0 (xs.length ≤ j ∧ rdrop l0 y = xs ++ rdrop (l0.drop j) y ∧ OwnR w wr w1.heap.size (.slice A xs.length c) xs ∧ Go.RowKit.Below w1.heap.size w1 wr))
  case atStart => exact ⟨none, 0, [], 0, rfl, rfl, Nat.zero_le _, Nat.le_refl _, ⟨by simp, by simp, OwnR.start _ _ _, Go.RowKit.Below.refl _ _⟩⟩
  case round =>
    obtain ⟨A, c, xs, j, rfl, rfl, hj, hg, HI⟩ := hrel
    have hbr := HI.out.2.2.2
    have q0 := (hbr.cell (World.block_lt_of_cell? w1 _ hz0)).trans hz0
    have q1 := (hbr.cell (World.block_lt_of_cell? w1 _ hz1)).trans hz1
    clear hz0 hz1
    have HBw : Aside0 (Go.RowKit.Below w.heap.size w wr) := ⟨HB.out.trans (hbr.mono HB.out.size)⟩
    clear hbr
    by_cases hlt : j < n
    · have hltz : (j : Int) < (n : Int) := by omega
      obtain ⟨ad, A2, c2, eA, y0, y1, y2, y3⟩ := at_T53 (Kd.C_below HR0.out HBw.out) (j : Int) (by omega) (by rw [← HN.out]; omega)
      obtain ⟨ad', A3, c3, eA', x0, x1, x2, x3⟩ := at_T53 HR0.out (j : Int) (by omega) (by rw [← HN.out]; omega)
      subst eA
      obtain rfl : ad = ad' := by injection eA'
      have hj2 : j < l0.length := by rw [← HN.out]; exact hlt
      have hx0 := (HBw.out.cell (World.block_lt_of_cell? w _ x1)).trans x1
      rw [y1] at hx0
      injection hx0 with hx0
      injection hx0 with hx0 hx1 hx2
      subst hx0 hx2
      rw [rd53_get hj2] at y0 y1 y2 y3 x3
      have KX := Aside0.mk (k53_mk w l0[j] y2 x3)
      clear x0 x1 x2 x3 eA'
      have hd : l0.drop j = l0[j] :: l0.drop (j + 1) := List.drop_eq_getElem_cons hj2
      have fx : fitX l0[j] = true := (fitL_iff.1 HL.out).1 _ (List.getElem_mem hj2)
      generalize l0[j] = x at *
      rw [show ((j : Int)).toNat * 2 = j * 2 by omega] at y0 y1
      have hd1 : Go.RowKit.Below wr.heap.size wr wr.drew := below_drew1 (Go.RowKit.Below.refl _ _)
      have hF : Aside0 (∀ W, Go.RowKit.Below wr.heap.size wr W → Calls Try.prog 40 #[.agg #[.string x.f0, .slice A2 x.f1.length c2], .agg #[.string y.f0, .slice A1 ny c1]] W fun e w' => e = .returned (.bool (cf53 x y == 0)) ∧ Go.RowKit.Below wr.heap.size wr w') := ⟨fun W hW => by
        obtain ⟨k, hk⟩ := (kfact_ev x y (fitX_iff.1 fx).2.2).rounds
        have h1 := Kd.C_below HR1.out.2 (HBw.out.trans (hW.mono HBw.out.size))
        have h2 := HR1.out.1
        have h3 := HNY.out
        rw [← h3] at h1 h2 ⊢
        refine (constablekeep_Fact.calls k x.f0 A2 c2 x.f1 y.f0 A1 c1 y.f1 _ W (Kd.C_below y3 hW) y2 h1 h2 hk).mono ?_
        rintro e w' ⟨rfl, hb⟩
        exact ⟨rfl, hW.trans (hb.mono hW.size)⟩⟩
      have HD : Aside0 (rdrop (l0.drop j) y = if (cf53 x y == 0) = true then rdrop (l0.drop (j + 1)) y else x :: rdrop (l0.drop (j + 1)) y) := ⟨by
        rw [hd, rdrop, rdrop, List.filter_cons]
        cases (cf53 x y == 0) <;> simp⟩
      clear hd y2 y3
      cases hq : (cf53 x y == 0) with
      | true =>
        rw [hq] at hF HD
        go_wp2_with fail
        go_region_held3 (fun w' => w'.cell? (ad.add (j * 2)) = some (.string x.f0) ∧ w'.cell? ⟨(ad.add (j * 2)).block, (ad.add (j * 2)).off + 1, none⟩ = some (.slice A2 x.f1.length c2) ∧ w'.cell? ⟨w.heap.size, 0, none⟩ = some (.string y.f0) ∧ w'.cell? ⟨w.heap.size, 1, none⟩ = some (.slice A1 ny c1))
          (first | go_keep | (refine ⟨?_, ?_, ?_, ?_⟩ <;> assumption))
          (first | (go_at_call 40; (with_reducible refine (hF.out _ hd1).mono ?_); rintro e w3 ⟨rfl, hb3⟩; have HI3 := Aside0.mk (And.intro (HI.out.2.2.1.below hb3) (HI.out.2.2.2.trans (hb3.mono HI.out.2.2.2.size))); replace y0 := (hb3.cell (World.block_lt_of_cell? wr _ y0)).trans y0; replace y1 := (hb3.cell (World.block_lt_of_cell? wr _ y1)).trans y1; replace q0 := (hb3.cell (World.block_lt_of_cell? wr _ q0)).trans q0; replace q1 := (hb3.cell (World.block_lt_of_cell? wr _ q1)).trans q1; clear hb3))
        go_wp2
        go_roundg (n - (j + 1))
        case measure => omega
        case rel => exact ⟨A, c, xs, j + 1, rfl, by go_num, by omega, by omega, ⟨by have := HI.out.1; omega, by rw [HI.out.2.1, HD.out]; simp, HI3.out.1, HI3.out.2⟩⟩
      | false =>
        rw [hq] at hF HD
        go_wp2_with fail
        go_region_held3 (fun w' => w'.cell? (ad.add (j * 2)) = some (.string x.f0) ∧ w'.cell? ⟨(ad.add (j * 2)).block, (ad.add (j * 2)).off + 1, none⟩ = some (.slice A2 x.f1.length c2) ∧ w'.cell? ⟨w.heap.size, 0, none⟩ = some (.string y.f0) ∧ w'.cell? ⟨w.heap.size, 1, none⟩ = some (.slice A1 ny c1))
          (first | go_keep | (refine ⟨?_, ?_, ?_, ?_⟩ <;> assumption))
          (first | (go_at_call 40; (with_reducible refine (hF.out _ hd1).mono ?_); rintro e w3 ⟨rfl, hb3⟩; have HI3 := Aside0.mk (And.intro (HI.out.2.2.1.below hb3) (HI.out.2.2.2.trans (hb3.mono HI.out.2.2.2.size))); replace y0 := (hb3.cell (World.block_lt_of_cell? wr _ y0)).trans y0; replace y1 := (hb3.cell (World.block_lt_of_cell? wr _ y1)).trans y1; replace q0 := (hb3.cell (World.block_lt_of_cell? wr _ q0)).trans q0; replace q1 := (hb3.cell (World.block_lt_of_cell? wr _ q1)).trans q1; clear hb3))
        go_wp2_with (at_builtin; (obtain ⟨A', c', w6, happ, hO6, hb6⟩ := appendR w1.heap.size (.slice A xs.length c) xs x A2 c2 w3.heap.size HI3.out.1 rfl KX.out HI3.out.2.size (by have := HI.out.1; omega); refine Lib.wpList_append_run _ rfl _ _ _ _ rfl _ _ rfl rfl _ _ (happ _) ?_; have HO6 := Aside0.mk hO6; have HB6 := Aside0.mk (HI3.out.2.trans hb6); clear hO6 hb6 happ))
        go_roundg (n - (j + 1))
        case measure => omega
        case rel => exact ⟨A', c', xs ++ [x], j + 1, by simp, by go_num, by omega, by omega, ⟨by have := HI.out.1; simp; omega, by rw [HI.out.2.1, HD.out]; simp, by simpa using HO6.out, HB6.out⟩⟩
    · have hltz : ¬ (j : Int) < (n : Int) := by omega
      have HX : Aside0 (rdrop l0 y = xs) := ⟨by rw [HI.out.2.1, List.drop_eq_nil_of_le (by rw [← HN.out]; omega)]; simp [rdrop]⟩
      go_wp2
      go_ret
      rw [HX.out]
      exact ⟨A, c, rfl, HI.out.2.2.1.row HBw.out, HBw.out⟩
/-! ### Of -/
def rof (l : List S53) : List S53 := l.foldl rput []
theorem insG_mem {x y : S53} : ∀ l : List S53, x ∈ insG y l ↔ x = y ∨ x ∈ l
  | [] => by simp [insG]
  | z :: l => by
    rw [insG]
    split
    · simp
    · rw [List.mem_cons, insG_mem l, List.mem_cons]
      constructor
      · rintro (h | h | h) <;> simp [h]
      · rintro (h | h | h) <;> simp [h]
theorem insG_len {y : S53} : ∀ l : List S53, (insG y l).length = l.length + 1
  | [] => rfl
  | z :: l => by
    rw [insG]
    split
    · rfl
    · rw [List.length_cons, insG_len l, List.length_cons]
theorem insG_up {y : S53} : ∀ l : List S53, l.Pairwise (fun x z => cf53 x z < 0) → (∀ x ∈ l, ¬ cf53 x y = 0) → (insG y l).Pairwise (fun x z => cf53 x z < 0)
  | [], _, _ => List.pairwise_singleton _ _
  | z :: l, h, hn => by
    obtain ⟨h1, h2⟩ := List.pairwise_cons.1 h
    rw [insG]
    split
    · rename_i hlt
      refine List.pairwise_cons.2 ⟨fun x hx => ?_, h⟩
      rcases List.mem_cons.1 hx with rfl | hx
      · exact hlt
      · exact ord53.lt hlt (Int.le_of_lt (h1 x hx))
    · rename_i hge
      refine List.pairwise_cons.2 ⟨fun x hx => ?_, insG_up l h2 (fun x hx => hn x (List.mem_cons_of_mem _ hx))⟩
      rcases (insG_mem l).1 hx with rfl | hx
      · have := hn z List.mem_cons_self
        have := ord53.swap z x
        omega
      · exact h1 x hx
theorem rput_mem {x y : S53} {l : List S53} : x ∈ rput l y ↔ x = y ∨ x ∈ l := by
  unfold rput
  split
  · rename_i h
    exact ⟨.inr, fun h2 => h2.elim (fun e => e ▸ has_iff.1 h) id⟩
  · exact insG_mem l
theorem rput_len {y : S53} {l : List S53} : (rput l y).length ≤ l.length + 1 := by
  unfold rput
  split
  · omega
  · rw [insG_len]; exact Nat.le_refl _
theorem rput_set {l : List S53} {y : S53} (h : l.Pairwise (fun x z => cf53 x z < 0)) : rput l y = setO cf53 (l ++ [y]) := by
  refine setO_one ord53 ?_ (fun x => by rw [rput_mem, List.mem_append, List.mem_singleton]; exact Or.comm)
  unfold rput
  split
  · exact h
  · rename_i hn
    refine insG_up l h fun x hx e => hn ?_
    rw [List.any_eq_true]
    exact ⟨x, hx, by rw [e]; rfl⟩
theorem rof_loop (m : List S53) : ∀ l : List S53, l.foldl rput (setO cf53 m) = setO cf53 (m ++ l) := by
  intro l
  induction l generalizing m with
  | nil => rw [List.append_nil]; rfl
  | cons x l ih =>
    rw [List.foldl_cons, rput_set (setO_up ord53 m), set_same (l := setO cf53 m ++ [x]) (m := m ++ [x]) (fun z => by rw [List.mem_append, List.mem_append, setO_mem ord53]), ih (m ++ [x]), List.append_assoc]
    rfl
theorem rof_set (l : List S53) : rof l = setO cf53 l := rof_loop [] l
theorem rdrop_mem {l : List S53} {x y : S53} : x ∈ rdrop l y → x ∈ l := fun h => (List.mem_filter.1 h).1
set_option maxHeartbeats 8000000 in
set_option maxRecDepth 1000000 in
theorem rOf_calls (A0 : Option Addr) (c0 : Nat) (l0 : List (S53)) (w : World) (hr0 : Kd.C k53 w A0 l0.length l0) (hc0 : l0.length ≤ c0) (hl : fitL l0 = true) :
    Calls Try.prog 44 #[.slice A0 l0.length c0] w fun e w' => ∃ A c, e = .returned (.slice A (rof l0).length c) ∧ Row w' A (rof l0).length c (rof l0) ∧ Go.RowKit.Below w.heap.size w w' := by
  have hu := Try.underlying53
  have HR0 := Aside0.mk hr0
  have HL := Aside0.mk hl
  have hn6 : l0.length ≤ 300000 := (fitL_iff.1 hl).2
  clear hr0 hc0 hl
  obtain ⟨n, hn⟩ : ∃ n, n = l0.length := ⟨_, rfl⟩
  rw [← hn] at hn6 ⊢
  have HN := Aside0.mk hn
  clear hn
  go_enter Try.func44, Try.ntmps44
  go_wp2
  go_loopg [3, 4] n (fun gg s3 s4 wr => ∃ (A : Option Addr) (c : Nat) (xs : List S53) (j : Nat), s3 = .slice A xs.length c ∧ s4 = .int .i64 j ∧ j ≤ n ∧ n - j ≤ gg ∧ Aside0 (xs.length ≤ j ∧ (∀ x ∈ xs, x ∈ l0) ∧ rof l0 = (l0.drop j).foldl rput xs ∧ Row wr A xs.length c xs ∧ Go.RowKit.Below w.heap.size w wr))
  case atStart => exact ⟨none, 0, [], 0, rfl, rfl, Nat.zero_le _, Nat.le_refl _, ⟨by simp, by simp, by simp [rof], ⟨Nat.le_refl _, rfl, by simp, fun h => absurd h (by simp)⟩, Go.RowKit.Below.refl _ _⟩⟩
  case round =>
    obtain ⟨A, c, xs, j, rfl, rfl, hj, hg, HI⟩ := hrel
    by_cases hlt : j < n
    · have hltz : (j : Int) < (n : Int) := by omega
      obtain ⟨ad, A2, c2, eA, y0, y1, y2, y3⟩ := at_T53 (Kd.C_below HR0.out HI.out.2.2.2.2) (j : Int) (by omega) (by rw [← HN.out]; omega)
      subst eA
      have hj2 : j < l0.length := by rw [← HN.out]; exact hlt
      rw [rd53_get hj2] at y0 y1 y2 y3
      have HD := Aside0.mk (show l0.drop j = l0[j] :: l0.drop (j + 1) from List.drop_eq_getElem_cons hj2)
      have HM := Aside0.mk (show l0[j] ∈ l0 from List.getElem_mem hj2)
      generalize l0[j] = x at *
      rw [show ((j : Int)).toNat * 2 = j * 2 by omega] at y0 y1
      have hP : Aside0 (Calls Try.prog 45 #[.slice A xs.length c, .agg #[.string x.f0, .slice A2 x.f1.length c2]] wr fun e w' => ∃ A c, e = .returned (.slice A (rput xs x).length c) ∧ Row w' A (rput xs x).length c (rput xs x) ∧ Go.RowKit.Below w.heap.size w w') := ⟨by
        refine (rPut_calls A c xs x A2 c2 wr HI.out.2.2.2.1.C HI.out.2.2.2.1.1 y3 y2 (fitL_iff.2 ⟨fun z hz => (fitL_iff.1 HL.out).1 z (HI.out.2.1 z hz), by have := HI.out.1; omega⟩) ((fitL_iff.1 HL.out).1 x HM.out)).mono ?_
        rintro e w' ⟨A', c', rfl, hR, hb⟩
        exact ⟨A', c', rfl, hR, HI.out.2.2.2.2.trans (hb.mono HI.out.2.2.2.2.size)⟩⟩
      clear y2 y3
      go_wp2_with (go_at_call 45; with_reducible refine hP.out.mono ?_; rintro e w3 ⟨A', c', rfl, hR3, hb3⟩; have HR3 := Aside0.mk (And.intro hR3 hb3); clear hR3 hb3 hP)
      go_roundg (n - (j + 1))
      case measure => omega
      case rel => exact ⟨A', c', rput xs x, j + 1, rfl, by go_num, by omega, by omega, ⟨by have := HI.out.1; have := rput_len (y := x) (l := xs); omega, fun z hz => (rput_mem.1 hz).elim (fun e => e ▸ HM.out) (HI.out.2.1 z), by rw [HI.out.2.2.1, HD.out]; rfl, HR3.out.1, HR3.out.2⟩⟩
    · have hltz : ¬ (j : Int) < (n : Int) := by omega
      have HX : Aside0 (rof l0 = xs) := ⟨by rw [HI.out.2.2.1, List.drop_eq_nil_of_le (by rw [← HN.out]; omega)]; rfl⟩
      go_wp2
      go_ret
      rw [HX.out]
      exact ⟨A, c, rfl, HI.out.2.2.2.1, HI.out.2.2.2.2⟩
end Go.Proofs.Ytghommaokdhjmaa.RefP
/- constablekeep.Spoil: its walk. Over a row of facts of the caller's own it writes on that row's blocks alone. -/
set_option linter.unusedVariables false
set_option linter.unusedSimpArgs false
namespace Go.Proofs.Ytghommaokdhjmaa.Spoil
open Go.Shelf Go.RowKit Go.Lib Go.Sort Go.Proofs.SymP Go.Proofs.YtghommaokdhjmaaW.PrintWords Go.Proofs.Ytghommaokdhjmaa.P Go.Proofs.Ytghommaokdhjmaa.Str Go.Proofs.Ytghommaokdhjmaa.CmpF Go.Proofs.Ytghommaokdhjmaa.Fct
/-- wr is w with cells of ok's blocks written, but those of H. -/
structure Sp (base : Nat) (ok : Nat → Prop) (H : Addr → Prop) (w wr : World) : Prop where
  size : wr.heap.size = w.heap.size
  below : Go.RowKit.Below base w wr
  far : ∀ k, ¬ ok k → wr.heap[k]? = w.heap[k]?
  hdr : ∀ p, H p → wr.cell? p = w.cell? p
  has : ∀ p v, w.cell? p = some v → ∃ v', wr.cell? p = some v'
  fz : ∀ p, wr.frozen? p = w.frozen? p
theorem Sp.refl (base : Nat) (ok : Nat → Prop) (H : Addr → Prop) (w : World) : Sp base ok H w w := ⟨rfl, Go.RowKit.Below.refl _ _, fun _ _ => rfl, fun _ _ => rfl, fun p v h => ⟨v, h⟩, fun _ => rfl⟩
theorem Sp.set {base : Nat} {ok : Nat → Prop} {H : Addr → Prop} {w wr : World} (h : Sp base ok H w wr) {p : Addr} (v : Value) (h1 : ok p.block) (h2 : base ≤ p.block) (h3 : ¬ H p) : Sp base ok H w (wr.setCell p v) := by
  refine ⟨?_, h.below.setCell h2 _, fun k hk => ?_, fun q hq => ?_, fun q u hu => ?_, fun q => ?_⟩
  · rw [World.size_setCell]; exact h.size
  · rw [Go.RowKit.Below.heap_setCell wr p v k (fun e => hk (e ▸ h1))]; exact h.far k hk
  · rw [World.cell?_setCell_other _ _ _ _ (fun e : p = q => h3 (by rw [e]; exact hq))]; exact h.hdr q hq
  · obtain ⟨u', hu'⟩ := h.has q u hu
    exact cell?_setCell_some hu'
  · rw [World.frozen?_setCell]; exact h.fz q
/-- A row of facts of one's own, opened. -/
theorem open_row {w : World} {base : Nat} {ok : Nat → Prop} {v : Value} {l : List S53} (h : Kd.S k53 53 w base ok v l) :
    (v = .slice none 0 0 ∧ l = []) ∨ ∃ g cap, v = .slice (some ⟨g, 0, none⟩) l.length cap ∧ ok g ∧ base ≤ g ∧ l.length ≤ cap ∧ ∀ i, i < l.length → (∃ u, w.cell? ⟨g, i * 2, none⟩ = some u) ∧ w.frozen? ⟨g, i * 2, none⟩ = false ∧ ∃ A m c, w.cell? ⟨g, i * 2 + 1, none⟩ = some (.slice A m c) ∧ m = (l.getD i z53).f1.length ∧ m ≤ c ∧ (0 < m → ∃ b, A = some ⟨b, 0, none⟩ ∧ ok b ∧ b ≠ g ∧ base ≤ b ∧ ∀ j, j < m * 3 → (∃ u, w.cell? ⟨b, j, none⟩ = some u) ∧ w.frozen? ⟨b, j, none⟩ = false) := by
  have hR := Kd.S_R h
  obtain ⟨h0, inner, ho, hr⟩ := hR
  rcases ho.2 with ⟨rfl, hn⟩ | ⟨g, cap, cur, rfl, hb, hg, hn, hm, hs, ht⟩
  · exact .inl ⟨rfl, List.length_eq_zero_iff.1 hn⟩
  · refine .inr ⟨g, cap, rfl, h0 g rfl, hb, hn, fun i hi => ?_⟩
    rw [show k53.sz = 2 from rfl] at ht hs
    have hcell : ∀ j, j < l.length * 2 → w.cell? ⟨g, j, none⟩ = inner[j]? := fun j hj => by
      rw [blk_cell hg j, ← ht, List.getElem?_take, if_pos hj, Array.getElem?_toList]
    have hil : inner.length = l.length * 2 := ho.1
    have hM : k53.M w base (fun k => ok k ∧ some k ≠ (Value.slice (some ⟨g, 0, none⟩) l.length cap).ownBlock) l[i] ((inner.drop (i * 2)).take 2) := hr.2 i l[i] (List.getElem?_eq_getElem hi)
    obtain ⟨v1, hcs, hR1⟩ := k53_openM hM
    have c0 : inner[i * 2]? = some (.string l[i].f0) := by
      have := congrArg (fun q => q[0]?) hcs
      simpa [List.getElem?_take, List.getElem?_drop] using this
    have c1 : inner[i * 2 + 1]? = some v1 := by
      have := congrArg (fun q => q[1]?) hcs
      simpa [List.getElem?_take, List.getElem?_drop] using this
    have hgd : l.getD i z53 = l[i] := by rw [List.getD_eq_getElem?_getD, List.getElem?_eq_getElem hi]; rfl
    refine ⟨⟨_, (hcell _ (by omega)).trans c0⟩, blk_frozen hg _, ?_⟩
    rw [hgd]
    obtain ⟨h01, inner1, ho1, hr1⟩ := hR1
    rcases ho1.2 with ⟨rfl, hn1⟩ | ⟨g1, cap1, cur1, rfl, hb1, hg1, hn1, hm1, hs1, ht1⟩
    · exact ⟨none, 0, 0, (hcell _ (by omega)).trans c1, hn1.symm, Nat.le_refl _, fun h => absurd h (by omega)⟩
    · refine ⟨_, _, cap1, (hcell _ (by omega)).trans c1, rfl, hn1, fun _ => ⟨g1, rfl, (h01 g1 rfl).1, fun e => (h01 g1 rfl).2 (by rw [e]; rfl), hb1, fun j hj => ⟨⟨cur1[j]'(by rw [hs1]; show j < cap1 * 3; omega), ?_⟩, blk_frozen hg1 _⟩⟩⟩
      rw [blk_cell hg1 j]
      exact Array.getElem?_eq_getElem _
set_option maxHeartbeats 8000000 in
set_option maxRecDepth 1000000 in
theorem spoil_calls (base : Nat) (ok : Nat → Prop) (v : Value) (l : List S53) (w : World) (hS : Kd.S k53 53 w base ok v l) (hf : ∀ x ∈ l, x.f1.length ≤ 1000000) (hl : l.length ≤ 1000000) :
    Calls Try.prog 47 #[v] w fun e w' => e = .returned (.tuple #[]) ∧ Go.RowKit.Below base w w' ∧ w'.heap.size = w.heap.size ∧ ∀ k, ¬ ok k → w'.heap[k]? = w.heap[k]? := by
  have hu := Try.underlying53
  rcases open_row hS with ⟨rfl, rfl⟩ | ⟨g, cap, rfl, hog, hbg, hcap, hrow⟩
  · clear hS hf hl
    go_enter Try.func47, Try.ntmps47
    go_wp2
    go_loopg [2] 1 (fun kx s2 wr => s2 = .int .i64 0 ∧ w = wr)
    case atStart => exact ⟨rfl, rfl⟩
    case round =>
      obtain ⟨rfl, rfl⟩ := hrel
      go_wp2
      refine bodyPost_end (results_none rfl _ _ _) rfl ?_
      exact ⟨rfl, Go.RowKit.Below.refl _ _, rfl, fun _ _ => rfl⟩
  · have HF : Aside0 (∀ i, i < l.length → (l.getD i z53).f1.length ≤ 1000000) := ⟨fun i hi => by rw [List.getD_eq_getElem?_getD, List.getElem?_eq_getElem hi]; exact hf _ (List.getElem_mem hi)⟩
    have HRow := Aside0.mk hrow
    clear hS hf hrow
    generalize l.length = n at *
    go_enter Try.func47, Try.ntmps47
    go_wp2
    go_loopg [2] n (fun gg s2 wr => ∃ i : Nat, s2 = .int .i64 i ∧ i ≤ n ∧ n - i ≤ gg ∧ Aside0 (Sp base ok (fun p => ∃ j, p = ⟨g, j * 2 + 1, none⟩) w wr))
    case atStart => exact ⟨0, rfl, by omega, by omega, ⟨Sp.refl _ _ _ _⟩⟩
    case round =>
      obtain ⟨i, rfl, hi, hg, HS⟩ := hrel
      by_cases hlt : i < n
      · have hltz : (i : Int) < (n : Int) := by omega
        obtain ⟨⟨u0, hu0⟩, hz0, A, m, c, hc1, hm, hmc, hin⟩ := HRow.out i hlt
        have hm6 : m ≤ 1000000 := by rw [hm]; exact HF.out i hlt
        have HIn := Aside0.mk hin
        have HU := Aside0.mk (And.intro hu0 hz0)
        have HC1 := Aside0.mk hc1
        clear hu0 hz0 hin hm hc1
        have hh := (HS.out.hdr _ ⟨i, rfl⟩).trans HC1.out
        go_wp2
        go_loopg [3] m (fun gg s3 wr => ∃ k : Nat, s3 = .int .i64 k ∧ k ≤ m ∧ m - k ≤ gg ∧ Aside0 (Sp base ok (fun p => ∃ j, p = ⟨g, j * 2 + 1, none⟩) w wr))
        case atStart => exact ⟨0, rfl, by omega, by omega, HS⟩
        case round =>
          obtain ⟨k, rfl, hk, hg2, HS2⟩ := hrel
          have hh2 := (HS2.out.hdr _ ⟨i, rfl⟩).trans HC1.out
          by_cases hkm : k < m
          · have hkz : (k : Int) < (m : Int) := by omega
            obtain ⟨b, rfl, hob, hbn, hbb, hcl⟩ := HIn.out (by omega)
            obtain ⟨⟨v0, hv0⟩, hf0⟩ := hcl (k * 3) (by omega)
            obtain ⟨⟨v1, hv1⟩, hf1⟩ := hcl (k * 3 + 1) (by omega)
            obtain ⟨⟨v2, hv2⟩, hf2⟩ := hcl (k * 3 + 2) (by omega)
            clear hcl
            replace hf0 := (HS2.out.fz _).trans hf0
            replace hf1 := (HS2.out.fz _).trans hf1
            replace hf2 := (HS2.out.fz _).trans hf2
            obtain ⟨v0', hw0⟩ := HS2.out.has _ _ hv0
            obtain ⟨v1', hw1⟩ := HS2.out.has _ _ hv1
            obtain ⟨v2', hw2⟩ := HS2.out.has _ _ hv2
            clear hv0 hv1 hv2
            have HT := Aside0.mk (And.intro hob (And.intro hbn hbb))
            clear hob hbn hbb
            have hkm2 : (k : Int).toNat = k := by omega
            go_wp2
            go_roundg (m - (k + 1))
            case measure => omega
            case rel =>
              obtain ⟨hob, hbn, hbb⟩ := HT.out
              have hno : ∀ q : Nat, ¬ ∃ j, (⟨b, q, none⟩ : Addr) = ⟨g, j * 2 + 1, none⟩ := by rintro q ⟨j, e⟩; injection e with e _ _; exact hbn e
              exact ⟨k + 1, by go_num, by omega, by omega, ⟨((HS2.out.set _ hob hbb (hno _)).set _ hob hbb (hno _)).set _ hob hbb (hno _)⟩⟩
          · have hkz : ¬ (k : Int) < (m : Int) := by omega
            obtain ⟨u1, hu1⟩ := HS2.out.has _ _ HU.out.1
            have hz1 := (HS2.out.fz _).trans HU.out.2
            go_wp2
            go_roundg (n - (i + 1))
            case measure => omega
            case rel => exact ⟨i + 1, by go_num, by omega, by omega, ⟨HS2.out.set _ hog hbg (by rintro ⟨j, e⟩; injection e with _ e; omega)⟩⟩
      · have hltz : ¬ (i : Int) < (n : Int) := by omega
        go_wp2
        refine bodyPost_end (results_none rfl _ _ _) rfl ?_
        exact ⟨rfl, HS.out.below, HS.out.size, HS.out.far⟩
end Go.Proofs.Ytghommaokdhjmaa.Spoil
/- SetsExact: what its walk leans on: the rows that it holds till they are spoilt, and the contracts of what it calls, told over rows that are read. -/
set_option linter.unusedVariables false
set_option linter.unusedSimpArgs false
namespace Go.Proofs.Ytghommaokdhjmaa.Exact
open Go.Shelf Go.RowKit Go.Lib Go.Sort Go.Proofs.SymP Go.Proofs.YtghommaokdhjmaaW.PrintWords Go.Proofs.Ytghommaokdhjmaa.P Go.Proofs.Ytghommaokdhjmaa.Str Go.Proofs.Ytghommaokdhjmaa.CmpF Go.Proofs.Ytghommaokdhjmaa.Fct Go.Proofs.Ytghommaokdhjmaa.FactC Go.Proofs.Ytghommaokdhjmaa.SetsW Go.Proofs.Ytghommaokdhjmaa.PSets Go.Proofs.Ytghommaokdhjmaa.RefS Go.Proofs.Ytghommaokdhjmaa.PRise Go.Proofs.Ytghommaokdhjmaa.RefP Go.Proofs.Ytghommaokdhjmaa.Spoil
/-! ### Rows of their own, each between two sizes of the heap -/
structure Rw where
  v : Value
  l : List S53
  lo : Nat
  hi : Nat
def Held (w3 : World) (rows : List Rw) (W : World) : Prop :=
  Go.RowKit.Below w3.heap.size w3 W ∧ rows.Pairwise (fun p q => p.hi ≤ q.lo) ∧ ∀ q ∈ rows, w3.heap.size ≤ q.lo ∧ q.hi ≤ W.heap.size ∧ Kd.S k53 53 W q.lo (fun k => q.lo ≤ k ∧ k < q.hi) q.v q.l
section
variable {w3 W W' : World} {rows : List Rw} {q : Rw}
theorem Held.start (w3 : World) : Held w3 [] w3 := ⟨Go.RowKit.Below.refl _ _, List.Pairwise.nil, by simp⟩
theorem Held.below (h : Held w3 rows W) : Go.RowKit.Below w3.heap.size w3 W := h.1
theorem Held.step (h : Held w3 rows W) (hb : Go.RowKit.Below W.heap.size W W') : Held w3 rows W' :=
  ⟨h.1.trans (hb.mono h.1.size), h.2.1, fun q hq => ⟨(h.2.2 q hq).1, Nat.le_trans (h.2.2 q hq).2.1 hb.size, Kd.S_step (h.2.2 q hq).2.2 (fun k _ hlt => hb.block k hlt)⟩⟩
theorem Held.push {v : Value} {l : List S53} (h : Held w3 rows W) (hb : Go.RowKit.Below W.heap.size W W') (hS : Kd.S k53 53 W' W.heap.size (fun _ => True) v l) : Held w3 (rows ++ [⟨v, l, W.heap.size, W'.heap.size⟩]) W' := by
  have h2 := h.step hb
  refine ⟨h2.1, List.pairwise_append.2 ⟨h.2.1, List.pairwise_singleton _ _, fun p hp q hq => ?_⟩, fun q hq => ?_⟩
  · obtain rfl := List.mem_singleton.1 hq
    exact (h.2.2 p hp).2.1
  · rcases List.mem_append.1 hq with hq | hq
    · exact h2.2.2 q hq
    · obtain rfl := List.mem_singleton.1 hq
      exact ⟨h.1.size, Nat.le_refl _, Kd.S_mono (Kd.S_bound hS) (fun k hk => ⟨hk.2.1, hk.2.2.1⟩)⟩
theorem Held.spoil (h : Held w3 (q :: rows) W) (hf : fitL q.l = true) : Calls Try.prog 47 #[q.v] W fun e w' => e = .returned (.tuple #[]) ∧ Held w3 rows w' := by
  obtain ⟨hb, hp, hr⟩ := h
  obtain ⟨hp1, hp2⟩ := List.pairwise_cons.1 hp
  obtain ⟨q1, q2, q3⟩ := hr q List.mem_cons_self
  have hf2 := fitL_F hf
  refine (spoil_calls q.lo (fun k => q.lo ≤ k ∧ k < q.hi) q.v q.l W q3 (fitF_mem.1 hf2.1) (by omega)).mono ?_
  rintro e w' ⟨rfl, hb2, hsz, hfar⟩
  refine ⟨rfl, hb.trans (hb2.mono q1), hp2, fun p hp => ?_⟩
  obtain ⟨p1, p2, p3⟩ := hr p (List.mem_cons_of_mem _ hp)
  exact ⟨p1, by rw [hsz]; exact p2, Kd.S_move p3 (fun k hk => hfar k (fun h2 => by have := hp1 p hp; omega))⟩
theorem at0 (a : Rw) (l : List Rw) : a ∈ a :: l := List.mem_cons_self
theorem at1 (b a : Rw) (l : List Rw) : a ∈ b :: a :: l := List.mem_cons_of_mem _ List.mem_cons_self
theorem at2 (c b a : Rw) (l : List Rw) : a ∈ c :: b :: a :: l := List.mem_cons_of_mem _ (at1 _ _ _)
theorem at3 (d c b a : Rw) (l : List Rw) : a ∈ d :: c :: b :: a :: l := List.mem_cons_of_mem _ (at2 _ _ _ _)
theorem Held.read {A : Option Addr} {n c : Nat} {l : List S53} (h : Held w3 rows W) {lo hi : Nat} (hq : (⟨.slice A n c, l, lo, hi⟩ : Rw) ∈ rows) : Row W A n c l := by
  obtain ⟨_, _, h3⟩ := h.2.2 _ hq
  obtain ⟨e, h1, h2⟩ := Kd.S_reads' h3
  have e : n = l.length := e
  subst e
  exact ⟨h1, h2⟩
end
/-! ### Contracts -/
/-- A fact's arguments, read. -/
def FRow (W : World) (A : Option Addr) (n c : Nat) (y : S53) : Prop := n = y.f1.length ∧ n ≤ c ∧ Kd.C k24 W A n y.f1
theorem FRow.below {W W' : World} {A : Option Addr} {n c : Nat} {y : S53} (h : FRow W A n c y) (hb : Go.RowKit.Below W.heap.size W W') : FRow W' A n c y := ⟨h.1, h.2.1, Kd.C_below h.2.2 hb⟩
theorem row_len {W : World} {A : Option Addr} {n c : Nat} {l : List S53} (h : Row W A n c l) : l.length = n := h.2.1
section
variable {W : World} {A B D : Option Addr} {n c n2 c2 nf cf : Nat} {l m r : List S53} {y : S53} {v : Int}
theorem cMany {b : Bool} (h : Row W A n c l) (hv : Ev (fun k => constablelaw03_Many.f k l) b) : Calls Try.prog 29 #[.slice A n c] W fun e w' => e = .returned (.bool b) ∧ Go.RowKit.Below W.heap.size W w' := by
  obtain rfl := row_len h
  obtain ⟨k, hk⟩ := hv.rounds
  exact constablelaw03_Many.calls k A c l _ W h.C h.1 hk
theorem cHeavy {b : Bool} (h : FRow W A nf cf y) (hv : Ev (fun k => constablelaw03_Heavy.f k y.f0 y.f1) b) : Calls Try.prog 36 #[.agg #[.string y.f0, .slice A nf cf]] W fun e w' => e = .returned (.bool b) ∧ Go.RowKit.Below W.heap.size W w' := by
  obtain ⟨rfl, h1, h2⟩ := h
  obtain ⟨k, hk⟩ := hv.rounds
  exact constablelaw03_Heavy.calls k y.f0 A cf y.f1 _ W h2 h1 hk
theorem cTwin (h : Row W A n c l) (hl : fitL l = true) : Calls Try.prog 41 #[.slice A n c] W fun e w' => ∃ A' c', e = .returned (.slice A' n c') ∧ Row w' A' n c' l ∧ Kd.S k53 53 w' W.heap.size (fun _ => True) (.slice A' n c') l ∧ Go.RowKit.Below W.heap.size W w' := by
  obtain rfl := row_len h
  obtain ⟨k, hk⟩ := (twinF_ev _ hl).rounds
  refine (constablekeep_TwinFacts.calls k A c l _ W h.C h.1 hk).mono ?_
  rintro e w' ⟨v, rfl, hS, hb⟩
  obtain ⟨A', c', rfl, hR⟩ := Row.of hS
  exact ⟨A', c', rfl, hR, hS, hb⟩
theorem cOf (h : Row W A n c l) (hv : sets_Of.f l = some (r, v)) (n' : Nat) (hn : r.length = n') : Calls Try.prog 30 #[.slice A n c] W fun e w' => ∃ A' c', e = .returned (.tuple #[.slice A' n' c', .int .i64 v]) ∧ Kd.S k53 53 w' W.heap.size (fun _ => True) (.slice A' n' c') r ∧ Go.RowKit.Below W.heap.size W w' := by
  obtain rfl := row_len h
  subst hn
  refine (sets_Of.calls A c l r v W h.C h.1 hv).mono ?_
  rintro e w' ⟨u, rfl, hS, hb⟩
  obtain ⟨A', c', rfl, _⟩ := Row.of hS
  exact ⟨A', c', rfl, hS, hb⟩
theorem cPut (h : Row W A n c l) (hy : FRow W B nf cf y) (hv : sets_Put.f l y.f0 y.f1 = some (r, v)) (n' : Nat) (hn : r.length = n') : Calls Try.prog 32 #[.slice A n c, .agg #[.string y.f0, .slice B nf cf]] W fun e w' => ∃ A' c', e = .returned (.tuple #[.slice A' n' c', .int .i64 v]) ∧ Kd.S k53 53 w' W.heap.size (fun _ => True) (.slice A' n' c') r ∧ Go.RowKit.Below W.heap.size W w' := by
  obtain rfl := row_len h
  obtain ⟨rfl, h1, h2⟩ := hy
  subst hn
  refine (sets_Put.calls A c l y.f0 B cf y.f1 r v W h.C h.1 h2 h1 hv).mono ?_
  rintro e w' ⟨u, rfl, hS, hb⟩
  obtain ⟨A', c', rfl, _⟩ := Row.of hS
  exact ⟨A', c', rfl, hS, hb⟩
theorem cDrop (h : Row W A n c l) (hy : FRow W B nf cf y) (hv : sets_Drop.f l y.f0 y.f1 = some (r, v)) (n' : Nat) (hn : r.length = n') : Calls Try.prog 39 #[.slice A n c, .agg #[.string y.f0, .slice B nf cf]] W fun e w' => ∃ A' c', e = .returned (.tuple #[.slice A' n' c', .int .i64 v]) ∧ Kd.S k53 53 w' W.heap.size (fun _ => True) (.slice A' n' c') r ∧ Go.RowKit.Below W.heap.size W w' := by
  obtain rfl := row_len h
  obtain ⟨rfl, h1, h2⟩ := hy
  subst hn
  refine (sets_Drop.calls A c l y.f0 B cf y.f1 r v W h.C h.1 h2 h1 hv).mono ?_
  rintro e w' ⟨u, rfl, hS, hb⟩
  obtain ⟨A', c', rfl, _⟩ := Row.of hS
  exact ⟨A', c', rfl, hS, hb⟩
theorem cBoth (h : Row W A n c l) (hy : Row W B n2 c2 m) (hv : sets_Both.f l m = some (r, v)) (n' : Nat) (hn : r.length = n') : Calls Try.prog 42 #[.slice A n c, .slice B n2 c2] W fun e w' => ∃ A' c', e = .returned (.tuple #[.slice A' n' c', .int .i64 v]) ∧ Kd.S k53 53 w' W.heap.size (fun _ => True) (.slice A' n' c') r ∧ Go.RowKit.Below W.heap.size W w' := by
  obtain rfl := row_len h
  obtain rfl := row_len hy
  subst hn
  refine (sets_Both.calls A c l B c2 m r v W h.C h.1 hy.C hy.1 hv).mono ?_
  rintro e w' ⟨u, rfl, hS, hb⟩
  obtain ⟨A', c', rfl, _⟩ := Row.of hS
  exact ⟨A', c', rfl, hS, hb⟩
theorem cHas (h : Row W A n c l) (hy : FRow W B nf cf y) (hl : fitL l = true) (fy : fitX y = true) (q : Bool) (hq : (l.any fun x => cf53 x y == 0) = q) : Calls Try.prog 33 #[.slice A n c, .agg #[.string y.f0, .slice B nf cf]] W fun e w' => e = .returned (.bool q) ∧ Go.RowKit.Below W.heap.size W w' := by
  obtain rfl := row_len h
  obtain ⟨rfl, h1, h2⟩ := hy
  subst hq
  exact sets_Has.calls A c l y.f0 B cf y.f1 _ W h.C h.1 h2 h1 (by unfold sets_Has.f; rw [if_pos ⟨(fitL_F hl).1, (fitX_iff.1 fy).2.2⟩])
theorem cRHas (h : Row W A n c l) (hy : FRow W B nf cf y) (hl : fitL l = true) (q : Bool) (hq : (l.any fun x => cf53 x y == 0) = q) : Calls Try.prog 43 #[.slice A n c, .agg #[.string y.f0, .slice B nf cf]] W fun e w' => e = .returned (.bool q) ∧ Go.RowKit.Below W.heap.size W w' := by
  obtain rfl := row_len h
  obtain ⟨rfl, h1, h2⟩ := hy
  subst hq
  obtain ⟨k, hk⟩ := (rhas_ev l y hl).rounds
  exact constableref01_Has.calls k A c l y.f0 B cf y.f1 _ W h.C h.1 h2 h1 hk
theorem cRFact (hy : FRow W B nf cf y) (fy : fitX y = true) (q : Bool) (hq : (!wrongF y) = q) : Calls Try.prog 38 #[.agg #[.string y.f0, .slice B nf cf]] W fun e w' => e = .returned (.bool q) ∧ Go.RowKit.Below W.heap.size W w' := by
  obtain ⟨rfl, h1, h2⟩ := hy
  subst hq
  obtain ⟨k, hk⟩ := (ev_rfact53 y fy).rounds
  exact constableref01_Fact.calls k y.f0 B cf y.f1 _ W h2 h1 hk
theorem cRSet (h : Row W A n c l) (hl : fitL l = true) (q : Bool) (hq : (chkF l == 0) = q) : Calls Try.prog 37 #[.slice A n c] W fun e w' => e = .returned (.bool q) ∧ Go.RowKit.Below W.heap.size W w' := by
  obtain rfl := row_len h
  subst hq
  obtain ⟨k, hk⟩ := (ev_rset l hl).rounds
  exact constableref01_Set.calls k A c l _ W h.C h.1 hk
theorem cChk (h : Row W A n c l) (hl : fitL l = true) (hv : chkF l = v) : Calls Try.prog 35 #[.slice A n c] W fun e w' => e = .returned (.int .i64 v) ∧ Go.RowKit.Below W.heap.size W w' := by
  obtain rfl := row_len h
  subst hv
  obtain ⟨k, hk⟩ := (chk_ev l hl).rounds
  exact sets_Check.calls k A c l _ W h.C h.1 hk
theorem cFacts (h : Row W A n c l) (h' : Row W B n c2 l) (hl : fitL l = true) : Calls Try.prog 34 #[.slice A n c, .slice B n c2] W fun e w' => e = .returned (.bool true) ∧ Go.RowKit.Below W.heap.size W w' := by
  obtain rfl := row_len h
  obtain ⟨k, hk⟩ := (facts_same l hl).rounds
  exact constablekeep_Facts.calls k A c l B c2 l true W h.C h.1 h'.C h'.1 hk
theorem cROf (h : Row W A n c l) (hl : fitL l = true) (hr : setO cf53 l = r) (n' : Nat) (hn : r.length = n') : Calls Try.prog 44 #[.slice A n c] W fun e w' => ∃ A' c', e = .returned (.slice A' n' c') ∧ Row w' A' n' c' r ∧ Go.RowKit.Below W.heap.size W w' := by
  obtain rfl := row_len h
  subst hn
  subst hr
  have := rOf_calls A c l W h.C h.1 hl
  rwa [rof_set] at this
theorem cRPut (h : Row W A n c l) (hy : FRow W B nf cf y) (hl : fitL l = true) (fy : fitX y = true) (hr : rput l y = r) (n' : Nat) (hn : r.length = n') : Calls Try.prog 45 #[.slice A n c, .agg #[.string y.f0, .slice B nf cf]] W fun e w' => ∃ A' c', e = .returned (.slice A' n' c') ∧ Row w' A' n' c' r ∧ Go.RowKit.Below W.heap.size W w' := by
  obtain rfl := row_len h
  obtain ⟨rfl, h1, h2⟩ := hy
  subst hn
  subst hr
  exact rPut_calls A c l y B cf W h.C h.1 h2 h1 hl fy
theorem cRDrop (h : Row W A n c l) (hy : FRow W B nf cf y) (hl : fitL l = true) (hr : rdrop l y = r) (n' : Nat) (hn : r.length = n') : Calls Try.prog 46 #[.slice A n c, .agg #[.string y.f0, .slice B nf cf]] W fun e w' => ∃ A' c', e = .returned (.slice A' n' c') ∧ Row w' A' n' c' r ∧ Go.RowKit.Below W.heap.size W w' := by
  obtain rfl := row_len h
  obtain ⟨rfl, h1, h2⟩ := hy
  subst hn
  subst hr
  exact rDrop_calls A c l y B cf W h.C h.1 h2 h1 hl
end
theorem appendC' {W0 W : World} (b : Nat) (A : Option Addr) (n c : Nat) (B : Option Addr) (n2 c2 : Nat) (xs ys : List S53) (hu : Kd.S k53 53 W b (fun _ => True) (.slice A n c) xs) (hC : Row W0 B n2 c2 ys) (hW : Go.RowKit.Below W0.heap.size W0 W) (hb0 : W0.heap.size ≤ b) (hb : b ≤ W.heap.size) (hl : xs.length + ys.length ≤ 1000000) :
    ∃ A' c' w', (∀ ty, (Builtin.append_ #[46, 46] ty #[.slice A n c, .slice B n2 c2]).run Try.prog W = .ok (.slice A' (n + n2) c') w') ∧ Row w' A' (n + n2) c' (xs ++ ys) ∧ Go.RowKit.Below b W w' := by
  obtain ⟨e, h1, h2⟩ := Kd.S_reads' hu
  have e : n = xs.length := e
  obtain rfl := row_len hC
  by_cases hy : 0 < ys.length
  · obtain ⟨A', c', w', h3, h4, h5⟩ := appendC (W0 := W0) (W := W) b (.slice A n c) xs ys B c2 hu hC.C hW hb0 hb hl hy
    rw [List.length_append, ← e] at h3 h4
    exact ⟨A', c', w', h3, h4, h5⟩
  · obtain rfl : ys = [] := List.length_eq_zero_iff.1 (by omega)
    obtain ⟨i, hi, hz, hsz, hby⟩ := infoF
    have ht : Try.prog.underlying 46 = some (.slice 53) := SortF.lays.tS
    refine ⟨A, c, W, fun ty => run_append_nothing (P := Try.prog) W 46 46 ty 53 i ht hi A n c h1 _ ?_, ?_, Go.RowKit.Below.refl _ _⟩
    · cases B with
      | none => exact Src.ofNil W ht c2
      | some ad => exact Src.ofSlice W ht ad 0 c2 [] (by simp) (fun j u h => by simp at h) (fun u h => by simp at h)
    · rw [List.append_nil]
      subst e
      exact ⟨h1, h2⟩
theorem append_guarded {P : Program} (w : World) {ops : Array Oper} {rest : List Oper} {o : Oper} {a : Act} {Q : Exit → Act → World → Prop} (hw : Region.wanted o (yielded ops a.tmps) = true) (s x : Operand) (t tn : TypeId)
    (ho : o.op = .call { callee := .builtin .append, args := #[s, x], argTypes := #[t, tn] }) (vs vx : Value) (hs : a.eval s = vs) (hx : a.eval x = vx)
    (v' : Value) (w' : World) (hr : (Builtin.append_ #[t, tn] o.type #[vs, vx]).run P w = .ok v' w') (h : wpList P ops Q rest (a.put o.dst v') w') : wpList P ops Q (o :: rest) a w := by
  unfold wpList
  rw [if_pos hw]
  exact .inl (Lib.wp_append_run w s x t tn ho vs vx hs hx v' w' hr h)
end Go.Proofs.Ytghommaokdhjmaa.Exact
/- SetsExact: what is answered where, in the six ways that a play can go. -/
set_option linter.unusedVariables false
set_option linter.unusedSimpArgs false
namespace Go.Proofs.Ytghommaokdhjmaa.Exact
open Go.RowKit Go.Lib Go.Sort Go.Proofs.SymP Go.Proofs.YtghommaokdhjmaaW.PrintWords Go.Proofs.Ytghommaokdhjmaa.P Go.Proofs.Ytghommaokdhjmaa.Str Go.Proofs.Ytghommaokdhjmaa.CmpF Go.Proofs.Ytghommaokdhjmaa.Fct Go.Proofs.Ytghommaokdhjmaa.FactC Go.Proofs.Ytghommaokdhjmaa.SetsW Go.Proofs.Ytghommaokdhjmaa.PSets Go.Proofs.Ytghommaokdhjmaa.RefS Go.Proofs.Ytghommaokdhjmaa.PRise Go.Proofs.Ytghommaokdhjmaa.RefP
theorem all_not (l : List S53) : (l.all fun x => !wrongF x) = !(l.any wrongF) := by
  induction l with
  | nil => rfl
  | cons x l ih => rw [List.all_cons, List.any_cons, ih, Bool.not_or]
theorem chk_one' (y : S53) : chkF [y] = 0 ↔ wrongF y = false := by rw [chkF_zero]; simp
theorem chk2_zero {l m : List S53} : chk2 l m = 0 ↔ chkF l = 0 ∧ chkF m = 0 := by
  unfold chk2
  by_cases h : chkF l = 0 ∧ chkF m = 0
  · rw [if_pos h]; exact ⟨fun _ => h, fun _ => rfl⟩
  · rw [if_neg h]; exact ⟨fun h2 => by simp at h2, fun h2 => absurd h2 h⟩
theorem fit_of {r : List S53} (hl : ∀ x ∈ r, fitX x = true) (hn : r.length ≤ 300000) : fitL r = true := fitL_iff.2 ⟨hl, hn⟩
theorem fit_nil : fitL [] = true := fitL_iff.2 ⟨by simp, by simp⟩
theorem vals (l m : List S53) (y : S53) (fl : fitL l = true) (fm : fitL m = true) (fy : fitX y = true) (h60 : l.length ≤ 60) (h602 : m.length ≤ 60) :
    ∃ (all right okY isM : Bool) (rO rP rD rB : List S53) (eO eP eD eB eC : Int),
      (l.all fun x => !wrongF x) = all ∧ (chkF l == 0) = right ∧ (!wrongF y) = okY ∧ (chkF m == 0) = isM ∧ chkF l = eC ∧
      sets_Of.f l = some (rO, eO) ∧ sets_Put.f l y.f0 y.f1 = some (rP, eP) ∧ sets_Drop.f l y.f0 y.f1 = some (rD, eD) ∧ sets_Both.f l m = some (rB, eB) ∧
      (fitL rO = true ∧ fitL rP = true ∧ fitL rD = true ∧ fitL rB = true) ∧
      (all = true → setO cf53 l = rO) ∧ (right = true → okY = true → rput l y = rP ∧ rdrop l y = rD) ∧ (right = true → isM = true → setO cf53 (l ++ m) = rB) ∧
      ((all = false ∧ right = false ∧ eC = 1 ∧ eO = 1 ∧ rO.length = 0 ∧ eP = 1 ∧ rP.length = 0 ∧ eD = 1 ∧ rD.length = 0 ∧ eB = 1 ∧ rB.length = 0) ∨
       (all = true ∧ right = false ∧ eC = 1 ∧ eO = 0 ∧ eP = 1 ∧ rP.length = 0 ∧ eD = 1 ∧ rD.length = 0 ∧ eB = 1 ∧ rB.length = 0) ∨
       (all = true ∧ right = true ∧ okY = false ∧ isM = false ∧ eC = 0 ∧ eO = 0 ∧ eP = 1 ∧ rP.length = 0 ∧ eD = 1 ∧ rD.length = 0 ∧ eB = 1 ∧ rB.length = 0) ∨
       (all = true ∧ right = true ∧ okY = false ∧ isM = true ∧ eC = 0 ∧ eO = 0 ∧ eP = 1 ∧ rP.length = 0 ∧ eD = 1 ∧ rD.length = 0 ∧ eB = 0) ∨
       (all = true ∧ right = true ∧ okY = true ∧ isM = false ∧ eC = 0 ∧ eO = 0 ∧ eP = 0 ∧ eD = 0 ∧ eB = 1 ∧ rB.length = 0) ∨
       (all = true ∧ right = true ∧ okY = true ∧ isM = true ∧ eC = 0 ∧ eO = 0 ∧ eP = 0 ∧ eD = 0 ∧ eB = 0)) := by
  have hX := (fitL_iff.1 fl).1
  have hM := (fitL_iff.1 fm).1
  have hO : sets_Of.f l = some (if l.any wrongF = true then (([] : List S53), (1 : Int)) else (setO cf53 l, 0)) := by unfold sets_Of.f; rw [if_pos fl]
  have hP : sets_Put.f l y.f0 y.f1 = some (if chk2 l [y] = 0 then (setO cf53 (l ++ [y]), (0 : Int)) else ([], 1)) := by unfold sets_Put.f; rw [if_pos ⟨fl, fy⟩]
  have hD : sets_Drop.f l y.f0 y.f1 = some (if chk2 l [y] = 0 then ((setO cf53 l).filter fun x => !(cf53 x y == 0), (0 : Int)) else ([], 1)) := by unfold sets_Drop.f; rw [if_pos ⟨fl, fy⟩]
  have hB : sets_Both.f l m = some (if chk2 l m = 0 then (setO cf53 (l ++ m), (0 : Int)) else ([], 1)) := by unfold sets_Both.f; rw [if_pos ⟨fl, fm⟩]
  rw [all_not]
  cases hw : l.any wrongF with
  | true =>
    have hc : ¬ chkF l = 0 := fun h => by rw [((chkF_zero l).1 h).1] at hw; cases hw
    have h1 : chkF l = 1 := (chkF_one l).resolve_left hc
    rw [hw, if_pos rfl] at hO
    rw [if_neg (fun h => hc (chk2_zero.1 h).1)] at hP hD hB
    exact ⟨_, _, _, _, _, _, _, _, _, _, _, _, _, rfl, by rw [h1]; rfl, rfl, rfl, h1, hO, hP, hD, hB, ⟨fit_nil, fit_nil, fit_nil, fit_nil⟩, by simp, by simp, by simp, .inl ⟨rfl, rfl, rfl, rfl, rfl, rfl, rfl, rfl, rfl, rfl, rfl⟩⟩
  | false =>
    rw [hw, if_neg (by decide)] at hO
    have fO := set_fit fl
    by_cases hc : chkF l = 0
    · have hS : IsSet l := (chkF_zero l).1 hc
      have eB1 : chk2 l m = 0 ↔ chkF m = 0 := chk2_zero.trans ⟨fun h => h.2, fun h => ⟨hc, h⟩⟩
      have eP1 : chk2 l [y] = 0 ↔ wrongF y = false := chk2_zero.trans ⟨fun h => (chk_one' y).1 h.2, fun h => ⟨hc, (chk_one' y).2 h⟩⟩
      have gP : rput l y = setO cf53 (l ++ [y]) := rput_set hS.2
      have gD : rdrop l y = (setO cf53 l).filter fun x => !(cf53 x y == 0) := by rw [set_own hS]; rfl
      have fP : fitL (setO cf53 (l ++ [y])) = true := set_fit (fit_of (fun x hx => by rcases List.mem_append.1 hx with h | h; exact hX x h; rw [List.mem_singleton.1 h]; exact fy) (by rw [List.length_append, List.length_singleton]; omega))
      have fD : fitL ((setO cf53 l).filter fun x => !(cf53 x y == 0)) = true := fit_of (fun x hx => (fitL_iff.1 fO).1 x (List.mem_filter.1 hx).1) (Nat.le_trans (List.length_filter_le _ _) (fitL_iff.1 fO).2)
      have fB : fitL (setO cf53 (l ++ m)) = true := set_fit (fit_of (fun x hx => by rcases List.mem_append.1 hx with h | h; exact hX x h; exact hM x h) (by rw [List.length_append]; omega))
      cases hy : wrongF y with
      | true =>
        rw [if_neg (fun h => by rw [eP1.1 h] at hy; cases hy)] at hP hD
        by_cases hm : chkF m = 0
        · rw [if_pos (eB1.2 hm)] at hB
          exact ⟨_, _, _, _, _, _, _, _, _, _, _, _, _, rfl, by rw [hc]; rfl, rfl, by rw [hm]; rfl, hc, hO, hP, hD, hB, ⟨fO, fit_nil, fit_nil, fB⟩, fun _ => rfl, by simp, fun _ _ => rfl, .inr (.inr (.inr (.inl ⟨rfl, rfl, rfl, rfl, rfl, rfl, rfl, rfl, rfl, rfl, rfl⟩)))⟩
        · rw [if_neg (fun h => hm (eB1.1 h))] at hB
          have h1 : chkF m = 1 := (chkF_one m).resolve_left hm
          exact ⟨_, _, _, _, _, _, _, _, _, _, _, _, _, rfl, by rw [hc]; rfl, rfl, by rw [h1]; rfl, hc, hO, hP, hD, hB, ⟨fO, fit_nil, fit_nil, fit_nil⟩, fun _ => rfl, by simp, by simp, .inr (.inr (.inl ⟨rfl, rfl, rfl, rfl, rfl, rfl, rfl, rfl, rfl, rfl, rfl, rfl⟩))⟩
      | false =>
        rw [if_pos (eP1.2 hy)] at hP hD
        by_cases hm : chkF m = 0
        · rw [if_pos (eB1.2 hm)] at hB
          exact ⟨_, _, _, _, _, _, _, _, _, _, _, _, _, rfl, by rw [hc]; rfl, rfl, by rw [hm]; rfl, hc, hO, hP, hD, hB, ⟨fO, fP, fD, fB⟩, fun _ => rfl, fun _ _ => ⟨gP, gD⟩, fun _ _ => rfl, .inr (.inr (.inr (.inr (.inr ⟨rfl, rfl, rfl, rfl, rfl, rfl, rfl, rfl, rfl⟩))))⟩
        · rw [if_neg (fun h => hm (eB1.1 h))] at hB
          have h1 : chkF m = 1 := (chkF_one m).resolve_left hm
          exact ⟨_, _, _, _, _, _, _, _, _, _, _, _, _, rfl, by rw [hc]; rfl, rfl, by rw [h1]; rfl, hc, hO, hP, hD, hB, ⟨fO, fP, fD, fit_nil⟩, fun _ => rfl, fun _ _ => ⟨gP, gD⟩, by simp, .inr (.inr (.inr (.inr (.inl ⟨rfl, rfl, rfl, rfl, rfl, rfl, rfl, rfl, rfl, rfl⟩))))⟩
    · have h1 : chkF l = 1 := (chkF_one l).resolve_left hc
      rw [if_neg (fun h => hc (chk2_zero.1 h).1)] at hP hD hB
      exact ⟨_, _, _, _, _, _, _, _, _, _, _, _, _, rfl, by rw [h1]; rfl, rfl, rfl, h1, hO, hP, hD, hB, ⟨fO, fit_nil, fit_nil, fit_nil⟩, fun _ => rfl, by simp, by simp, .inr (.inl ⟨rfl, rfl, rfl, rfl, rfl, rfl, rfl, rfl, rfl, rfl⟩)⟩
end Go.Proofs.Ytghommaokdhjmaa.Exact
/- SetsExact: the law's own walk: it answers true, whatever the lists and the fact. -/
set_option linter.unusedVariables false
set_option linter.unusedSimpArgs false
namespace Go.Proofs.Ytghommaokdhjmaa.Exact
open Go.Shelf Go.RowKit Go.Lib Go.Sort Go.Proofs.SymP Go.Proofs.YtghommaokdhjmaaW.PrintWords Go.Proofs.Ytghommaokdhjmaa.P Go.Proofs.Ytghommaokdhjmaa.Str Go.Proofs.Ytghommaokdhjmaa.CmpF Go.Proofs.Ytghommaokdhjmaa.Fct Go.Proofs.Ytghommaokdhjmaa.FactC Go.Proofs.Ytghommaokdhjmaa.SetsW Go.Proofs.Ytghommaokdhjmaa.PSets Go.Proofs.Ytghommaokdhjmaa.RefS Go.Proofs.Ytghommaokdhjmaa.PRise Go.Proofs.Ytghommaokdhjmaa.RefP
theorem take_all {l : List S53} {j : Nat} (hj : j < l.length) : (l.take (j + 1)).all (fun x => !wrongF x) = ((l.take j).all (fun x => !wrongF x) && !wrongF l[j]) := by
  rw [List.take_succ_eq_append_getElem hj, List.all_append]
  simp
set_option maxHeartbeats 16000000 in
set_option maxRecDepth 1000000 in
theorem exact_main (A0 A1 Af : Option Addr) (c0 c1 cf n n2 nf : Nat) (l m : List S53) (y : S53) (w : World) (hl0 : Row w A0 n c0 l) (hm0 : Row w A1 n2 c1 m) (hy0 : FRow w Af nf cf y)
    (kl : Ev (fun k => constablelaw03_Many.f k l) false) (km : Ev (fun k => constablelaw03_Many.f k m) false) (ky : Ev (fun k => constablelaw03_Heavy.f k y.f0 y.f1) false)
    (fl : fitL l = true) (fm : fitL m = true) (fy : fitX y = true) (h60 : l.length ≤ 60) (h602 : m.length ≤ 60) :
    Calls Try.prog 9 #[.slice A0 n c0, .slice A1 n2 c1, .agg #[.string y.f0, .slice Af nf cf]] w fun e w' => e = .returned (.bool true) ∧ Go.RowKit.Below w.heap.size w w' := by
  have hu := Try.underlying53
  obtain ⟨all, right, okY, isM, rO, rP, rD, rB, eO, eP, eD, eB, eC, gall, gr, gy, gm, gc, vO, vP, vD, vB, ⟨fO, fP, fD, fB⟩, gO, gP, gB, hcase⟩ := vals l m y fl fm fy h60 h602
  obtain ⟨q, gq⟩ : ∃ q, (l.any fun x => cf53 x y == 0) = q := ⟨_, rfl⟩
  have fb2 : fitL (l ++ m) = true := fit_of (fun x hx => by rcases List.mem_append.1 hx with h | h; exact (fitL_iff.1 fl).1 x h; exact (fitL_iff.1 fm).1 x h) (by rw [List.length_append]; omega)
  have h62 : l.length + m.length ≤ 1000000 := by omega
  have hn6 : n ≤ 60 := by have := row_len hl0; omega
  have RL : Aside0 (∀ W, Go.RowKit.Below w.heap.size w W → Row W A0 n c0 l) := ⟨fun W hW => hl0.below hW⟩
  have RM : Aside0 (∀ W, Go.RowKit.Below w.heap.size w W → Row W A1 n2 c1 m) := ⟨fun W hW => hm0.below hW⟩
  have RY : Aside0 (∀ W, Go.RowKit.Below w.heap.size w W → FRow W Af nf cf y) := ⟨fun W hW => hy0.below hW⟩
  have LN := Aside0.mk (row_len hl0)
  have KL := Aside0.mk kl; have KM := Aside0.mk km; have KY := Aside0.mk ky
  have FL := Aside0.mk fl; have FM := Aside0.mk fm; have FY := Aside0.mk fy
  have GA := Aside0.mk gall; have GR := Aside0.mk gr; have GY := Aside0.mk gy; have GM := Aside0.mk gm; have GC := Aside0.mk gc
  have VO := Aside0.mk vO; have VP := Aside0.mk vP; have VD := Aside0.mk vD; have VB := Aside0.mk vB
  have FO := Aside0.mk fO; have FP := Aside0.mk fP; have FD := Aside0.mk fD; have FB := Aside0.mk fB
  have GO := Aside0.mk gO; have GP := Aside0.mk gP; have GB := Aside0.mk gB
  have GQ := Aside0.mk gq; have FB2 := Aside0.mk fb2; have H60 := Aside0.mk h62
  clear hl0 hm0 hy0 kl km ky fl fm fy gall gr gy gm gc vO vP vD vB fO fP fD fB gO gP gB gq fb2 h62 h60 h602
  obtain ⟨nO, hnO⟩ : ∃ nO, rO.length = nO := ⟨_, rfl⟩
  obtain ⟨nP, hnP⟩ : ∃ nP, rP.length = nP := ⟨_, rfl⟩
  obtain ⟨nD, hnD⟩ : ∃ nD, rD.length = nD := ⟨_, rfl⟩
  obtain ⟨nB, hnB⟩ : ∃ nB, rB.length = nB := ⟨_, rfl⟩
  rw [hnO, hnP, hnD, hnB] at hcase
  have NO := Aside0.mk hnO; have NP := Aside0.mk hnP; have ND := Aside0.mk hnD; have NB := Aside0.mk hnB
  have HC := Aside0.mk hcase
  clear hnO hnP hnD hnB hcase
  have hz0 : (w.alloc (.cells #[.string y.f0, .slice Af nf cf] 53)).cell? ⟨w.heap.size, 0, none⟩ = some (.string y.f0) := by simp
  have hz1 : (w.alloc (.cells #[.string y.f0, .slice Af nf cf] 53)).cell? ⟨w.heap.size, 1, none⟩ = some (.slice Af nf cf) := by simp
  have HB : Aside0 (Go.RowKit.Below w.heap.size w (w.alloc (.cells #[.string y.f0, .slice Af nf cf] 53))) := ⟨(Go.RowKit.Below.refl _ w).alloc (Nat.le_refl _) _⟩
  go_enter Try.func9, Try.ntmps9
  go_upto_region 4 with (first
  | (go_at_call 29; first | (with_reducible refine (cMany (RL.out _ HB.out) KL.out).mono ?_; rintro e w' ⟨rfl, hb⟩; replace hz0 := (hb.cell (World.block_lt_of_cell? _ _ hz0)).trans hz0; replace hz1 := (hb.cell (World.block_lt_of_cell? _ _ hz1)).trans hz1; have HBn := Aside0.mk (HB.out.trans (hb.mono HB.out.size)); clear HB; have HB := HBn; clear HBn; clear hb) | (with_reducible refine (cMany (RM.out _ HB.out) KM.out).mono ?_; rintro e w' ⟨rfl, hb⟩; replace hz0 := (hb.cell (World.block_lt_of_cell? _ _ hz0)).trans hz0; replace hz1 := (hb.cell (World.block_lt_of_cell? _ _ hz1)).trans hz1; have HBn := Aside0.mk (HB.out.trans (hb.mono HB.out.size)); clear HB; have HB := HBn; clear HBn; clear hb))
  | (go_at_call 36; (with_reducible refine (cHeavy (RY.out _ HB.out) KY.out).mono ?_; rintro e w' ⟨rfl, hb⟩; replace hz0 := (hb.cell (World.block_lt_of_cell? _ _ hz0)).trans hz0; replace hz1 := (hb.cell (World.block_lt_of_cell? _ _ hz1)).trans hz1; have HBn := Aside0.mk (HB.out.trans (hb.mono HB.out.size)); clear HB; have HB := HBn; clear HBn; clear hb))
  | (go_at_call 41; first | (with_reducible refine (cTwin (RL.out _ HB.out) FL.out).mono ?_; rintro e w2 ⟨Aa, ca, rfl, hR, hS, hb⟩; have RA := Aside0.mk hR; replace hz0 := (hb.cell (World.block_lt_of_cell? _ _ hz0)).trans hz0; replace hz1 := (hb.cell (World.block_lt_of_cell? _ _ hz1)).trans hz1; have HBn := Aside0.mk (HB.out.trans (hb.mono HB.out.size)); clear HB; have HB := HBn; clear HBn; clear hR hS hb) | (with_reducible refine (cTwin (RM.out _ HB.out) FM.out).mono ?_; rintro e w3 ⟨Ab, cb, rfl, hR, hS, hb⟩; have RB := Aside0.mk hR; have RAn := Aside0.mk (RA.out.below hb); clear RA; have RA := RAn; clear RAn; replace hz0 := (hb.cell (World.block_lt_of_cell? _ _ hz0)).trans hz0; replace hz1 := (hb.cell (World.block_lt_of_cell? _ _ hz1)).trans hz1; have HBn := Aside0.mk (HB.out.trans (hb.mono HB.out.size)); clear HB; have HB := HBn; clear HBn; clear hR hS hb)))
  have RR : Aside0 (∀ W, Go.RowKit.Below w3.heap.size w3 W → Row W Aa n ca l ∧ Row W Ab n2 cb m ∧ Row W A0 n c0 l ∧ Row W A1 n2 c1 m ∧ FRow W Af nf cf y) := ⟨fun W hW => ⟨RA.out.below hW, RB.out.below hW, RL.out _ (HB.out.trans (hW.mono HB.out.size)), RM.out _ (HB.out.trans (hW.mono HB.out.size)), RY.out _ (HB.out.trans (hW.mono HB.out.size))⟩⟩
  have RM3 := Aside0.mk (RM.out _ HB.out)
  have H := Aside0.mk (Held.start w3)
  clear RA RB RL RM RY KL KM KY
  go_upto_region 8 with (first
  | (go_at_call 30; with_reducible refine (cOf (RR.out _ H.out.below).1 VO.out nO NO.out).mono ?_; rintro e w4 ⟨A4, c4, rfl, hS, hb⟩; replace hz0 := (hb.cell (World.block_lt_of_cell? _ _ hz0)).trans hz0; replace hz1 := (hb.cell (World.block_lt_of_cell? _ _ hz1)).trans hz1; have Hn := Aside0.mk (H.out.push hb hS); clear H; have H := Hn; clear Hn hS hb)
  | (go_at_call 32; with_reducible refine (cPut (RR.out _ H.out.below).1 (RR.out _ H.out.below).2.2.2.2 VP.out nP NP.out).mono ?_; rintro e w5 ⟨A5, c5, rfl, hS, hb⟩; replace hz0 := (hb.cell (World.block_lt_of_cell? _ _ hz0)).trans hz0; replace hz1 := (hb.cell (World.block_lt_of_cell? _ _ hz1)).trans hz1; have Hn := Aside0.mk (H.out.push hb hS); clear H; have H := Hn; clear Hn hS hb)
  | (go_at_call 39; with_reducible refine (cDrop (RR.out _ H.out.below).1 (RR.out _ H.out.below).2.2.2.2 VD.out nD ND.out).mono ?_; rintro e w6 ⟨A6, c6, rfl, hS, hb⟩; replace hz0 := (hb.cell (World.block_lt_of_cell? _ _ hz0)).trans hz0; replace hz1 := (hb.cell (World.block_lt_of_cell? _ _ hz1)).trans hz1; have Hn := Aside0.mk (H.out.push hb hS); clear H; have H := Hn; clear Hn hS hb)
  | (go_at_call 42; with_reducible refine (cBoth (RR.out _ H.out.below).1 (RR.out _ H.out.below).2.1 VB.out nB NB.out).mono ?_; rintro e w7 ⟨A7, c7, rfl, hS, hb⟩; replace hz0 := (hb.cell (World.block_lt_of_cell? _ _ hz0)).trans hz0; replace hz1 := (hb.cell (World.block_lt_of_cell? _ _ hz1)).trans hz1; have Hn := Aside0.mk (H.out.push hb hS); clear H; have H := Hn; clear Hn hS hb))
  have H7 : Aside0 (Held w3 [⟨.slice A4 nO c4, rO, _, _⟩, ⟨.slice A5 nP c5, rP, _, _⟩, ⟨.slice A6 nD c6, rD, _, _⟩, ⟨.slice A7 nB c7, rB, _, _⟩] w7) := ⟨H.out⟩
  clear H
  have H := H7
  clear H7
  have hd1 : Go.RowKit.Below w7.heap.size w7 w7.drew := below_drew1 (Go.RowKit.Below.refl _ _)
  have CH : Aside0 (∀ W, Go.RowKit.Below w7.heap.size w7 W → Calls Try.prog 33 #[.slice Aa n ca, .agg #[.string y.f0, .slice Af nf cf]] W fun e w' => e = .returned (.bool q) ∧ Go.RowKit.Below w7.heap.size w7 w') := ⟨fun W hW => (cHas (RR.out _ (H.out.step hW).below).1 (RR.out _ (H.out.step hW).below).2.2.2.2 FL.out FY.out q GQ.out).mono fun e w' ⟨he, hb⟩ => ⟨he, hW.trans (hb.mono hW.size)⟩⟩
  have CR : Aside0 (∀ W, Go.RowKit.Below w7.heap.size w7 W → Calls Try.prog 43 #[.slice A0 n c0, .agg #[.string y.f0, .slice Af nf cf]] W fun e w' => e = .returned (.bool q) ∧ Go.RowKit.Below w7.heap.size w7 w') := ⟨fun W hW => (cRHas (RR.out _ (H.out.step hW).below).2.2.1 (RR.out _ (H.out.step hW).below).2.2.2.2 FL.out q GQ.out).mono fun e w' ⟨he, hb⟩ => ⟨he, hW.trans (hb.mono hW.size)⟩⟩
  have Z0 := Aside0.mk hz0
  have Z1 := Aside0.mk hz1
  go_wp2_with fail
  go_region_held3 (fun w' => w'.cell? ⟨w.heap.size, 0, none⟩ = some (.string y.f0) ∧ w'.cell? ⟨w.heap.size, 1, none⟩ = some (.slice Af nf cf))
    (first | go_keep | (refine ⟨?_, ?_⟩ <;> assumption))
    (first | (go_at_call 33; first | (with_reducible refine (CH.out _ hd1).mono ?_; rintro e w8 ⟨rfl, hb8⟩; replace hz0 := (hb8.cell (World.block_lt_of_cell? w7 _ Z0.out)).trans Z0.out; replace hz1 := (hb8.cell (World.block_lt_of_cell? w7 _ Z1.out)).trans Z1.out) | (with_reducible refine (CH.out _ hb8).mono ?_; rintro e w9 ⟨rfl, hb9⟩; replace hz0 := (hb9.cell (World.block_lt_of_cell? w7 _ Z0.out)).trans Z0.out; replace hz1 := (hb9.cell (World.block_lt_of_cell? w7 _ Z1.out)).trans Z1.out)) | (go_at_call 43; first | (with_reducible refine (CR.out _ hd1).mono ?_; rintro e w8 ⟨rfl, hb8⟩; replace hz0 := (hb8.cell (World.block_lt_of_cell? w7 _ Z0.out)).trans Z0.out; replace hz1 := (hb8.cell (World.block_lt_of_cell? w7 _ Z1.out)).trans Z1.out) | (with_reducible refine (CR.out _ hb8).mono ?_; rintro e w9 ⟨rfl, hb9⟩; replace hz0 := (hb9.cell (World.block_lt_of_cell? w7 _ Z0.out)).trans Z0.out; replace hz1 := (hb9.cell (World.block_lt_of_cell? w7 _ Z1.out)).trans Z1.out)))
  have Hn := Aside0.mk (H.out.step hb9)
  clear H
  have H := Hn
  clear Hn hb8 hb9 CH CR Z0 Z1 hd1
  go_wp2_with fail
  go_loopg [17, 18] n (fun gg s17 s18 wr => ∃ j : Nat, s17 = .bool ((l.take j).all fun x => !wrongF x) ∧ s18 = .int .i64 j ∧ j ≤ n ∧ n - j ≤ gg ∧ Aside0 (Go.RowKit.Below w9.heap.size w9 wr))
  case atStart => exact ⟨0, by simp, rfl, Nat.zero_le _, Nat.le_refl _, ⟨Go.RowKit.Below.refl _ _⟩⟩
  case round =>
    obtain ⟨j, rfl, rfl, hj, hg, HW⟩ := hrel
    by_cases hlt : j < n
    · have hltz : (j : Int) < (n : Int) := by omega
      have hj2 : j < l.length := by rw [LN.out]; exact hlt
      have HN := Aside0.mk (take_all hj2)
      generalize (l.take j).all (fun x => !wrongF x) = b at *
      cases b with
      | false =>
        go_wp2
        go_roundg (n - (j + 1))
        case measure => omega
        case rel => exact ⟨j + 1, by rw [HN.out]; rfl, by go_num, by omega, by omega, HW⟩
      | true =>
        obtain ⟨ad, A2, c2, eA, y0, y1, y2, y3⟩ := at_T53 (RR.out _ (H.out.step HW.out).below).2.2.1.C (j : Int) (by omega) (by omega)
        subst eA
        rw [rd53_get hj2] at y0 y1 y2 y3
        have CF := Aside0.mk (cRFact (y := l[j]) ⟨rfl, y2, y3⟩ ((fitL_iff.1 FL.out).1 _ (List.getElem_mem hj2)) _ rfl)
        generalize l[j] = x at *
        rw [show ((j : Int)).toNat * 2 = j * 2 by omega] at y0 y1
        clear y2 y3
        go_wp2_with (go_at_call 38; with_reducible refine CF.out.mono ?_; rintro e w' ⟨rfl, hb⟩; have HW' := Aside0.mk (HW.out.trans (hb.mono HW.out.size)); clear hb CF)
        go_roundg (n - (j + 1))
        case measure => omega
        case rel => exact ⟨j + 1, by rw [HN.out, Bool.true_and], by go_num, by omega, by omega, HW'⟩
    · have hltz : ¬ (j : Int) < (n : Int) := by omega
      have ha : (l.take j).all (fun x => !wrongF x) = all := by rw [List.take_of_length_le (by rw [LN.out]; omega)]; exact GA.out
      rw [ha]
      clear ha
      replace hz0 := (HW.out.cell (World.block_lt_of_cell? w9 _ hz0)).trans hz0
      replace hz1 := (HW.out.cell (World.block_lt_of_cell? w9 _ hz1)).trans hz1
      have Hn := Aside0.mk (H.out.step HW.out)
      clear H HW
      have H := Hn
      clear Hn GA
      have hn6z : ¬ (n : Int) < 0 := by omega
      have fin : Aside0 (∀ W, Go.RowKit.Below w3.heap.size w3 W → Go.RowKit.Below w.heap.size w W) := ⟨fun W hW => HB.out.trans (hW.mono HB.out.size)⟩
      rcases HC.out with ⟨rfl, rfl, rfl, rfl, rfl, rfl, rfl, rfl, rfl, rfl, rfl⟩ | ⟨rfl, rfl, rfl, rfl, rfl, rfl, rfl, rfl, rfl, rfl⟩ | ⟨rfl, rfl, rfl, rfl, rfl, rfl, rfl, rfl, rfl, rfl, rfl, rfl⟩ | ⟨rfl, rfl, rfl, rfl, rfl, rfl, rfl, rfl, rfl, rfl, rfl⟩ | ⟨rfl, rfl, rfl, rfl, rfl, rfl, rfl, rfl, rfl, rfl⟩ | ⟨rfl, rfl, rfl, rfl, rfl, rfl, rfl, rfl, rfl⟩ <;> clear HC
      all_goals
        go_wp2_with (first
  | (go_at_call 44; first | (with_reducible refine (cROf (RR.out _ H.out.below).2.2.1 FL.out (GO.out (by trivial)) _ NO.out).mono ?_; rintro e w' ⟨ArO, crO, rfl, hR, hb⟩; have HRO := Aside0.mk hR; replace hz0 := (hb.cell (World.block_lt_of_cell? _ _ hz0)).trans hz0; replace hz1 := (hb.cell (World.block_lt_of_cell? _ _ hz1)).trans hz1; have Hn := Aside0.mk (H.out.step hb); clear H; have H := Hn; clear Hn; clear hb; clear hR) | (with_reducible refine (cROf HT.out FB2.out (GB.out (by trivial) (by trivial)) _ NB.out).mono ?_; rintro e w' ⟨ArB, crB, rfl, hR, hb⟩; have HRB := Aside0.mk hR; have Hn := Aside0.mk (H.out.step hb); clear H; have H := Hn; clear Hn; clear hb; clear hR))
  | (go_at_call 45; with_reducible refine (cRPut (RR.out _ H.out.below).2.2.1 (RR.out _ H.out.below).2.2.2.2 FL.out FY.out (GP.out (by trivial) (by trivial)).1 _ NP.out).mono ?_; rintro e w' ⟨ArP, crP, rfl, hR, hb⟩; have HRP := Aside0.mk hR; replace hz0 := (hb.cell (World.block_lt_of_cell? _ _ hz0)).trans hz0; replace hz1 := (hb.cell (World.block_lt_of_cell? _ _ hz1)).trans hz1; have Hn := Aside0.mk (H.out.step hb); clear H; have H := Hn; clear Hn; clear hb; clear hR)
  | (go_at_call 46; with_reducible refine (cRDrop (RR.out _ H.out.below).2.2.1 (RR.out _ H.out.below).2.2.2.2 FL.out (GP.out (by trivial) (by trivial)).2 _ ND.out).mono ?_; rintro e w' ⟨ArD, crD, rfl, hR, hb⟩; have HRD := Aside0.mk hR; replace hz0 := (hb.cell (World.block_lt_of_cell? _ _ hz0)).trans hz0; replace hz1 := (hb.cell (World.block_lt_of_cell? _ _ hz1)).trans hz1; have Hn := Aside0.mk (H.out.step hb); clear H; have H := Hn; clear Hn; clear hb; clear hR)
  | (go_at_call 37; first | (with_reducible refine (cRSet (RR.out _ H.out.below).2.2.1 FL.out _ GR.out).mono ?_; rintro e w' ⟨rfl, hb⟩; replace hz0 := (hb.cell (World.block_lt_of_cell? _ _ hz0)).trans hz0; replace hz1 := (hb.cell (World.block_lt_of_cell? _ _ hz1)).trans hz1; have Hn := Aside0.mk (H.out.step hb); clear H; have H := Hn; clear Hn; clear hb) | (with_reducible refine (cRSet (RR.out _ H.out.below).2.2.2.1 FM.out _ GM.out).mono ?_; rintro e w' ⟨rfl, hb⟩; replace hz0 := (hb.cell (World.block_lt_of_cell? _ _ hz0)).trans hz0; replace hz1 := (hb.cell (World.block_lt_of_cell? _ _ hz1)).trans hz1; have Hn := Aside0.mk (H.out.step hb); clear H; have H := Hn; clear Hn; clear hb))
  | (go_at_call 38; (with_reducible refine (cRFact (RR.out _ H.out.below).2.2.2.2 FY.out _ GY.out).mono ?_; rintro e w' ⟨rfl, hb⟩; replace hz0 := (hb.cell (World.block_lt_of_cell? _ _ hz0)).trans hz0; replace hz1 := (hb.cell (World.block_lt_of_cell? _ _ hz1)).trans hz1; have Hn := Aside0.mk (H.out.step hb); clear H; have H := Hn; clear Hn; clear hb))
  | (go_at_call 35; (with_reducible refine (cChk (RR.out _ H.out.below).1 FL.out GC.out).mono ?_; rintro e w' ⟨rfl, hb⟩; replace hz0 := (hb.cell (World.block_lt_of_cell? _ _ hz0)).trans hz0; replace hz1 := (hb.cell (World.block_lt_of_cell? _ _ hz1)).trans hz1; have Hn := Aside0.mk (H.out.step hb); clear H; have H := Hn; clear Hn; clear hb))
  | (go_at_call 34; first | (with_reducible refine (cFacts (H.out.read (at0 _ _)) HRO.out FO.out).mono ?_; rintro e w' ⟨rfl, hb⟩; replace hz0 := (hb.cell (World.block_lt_of_cell? _ _ hz0)).trans hz0; replace hz1 := (hb.cell (World.block_lt_of_cell? _ _ hz1)).trans hz1; have Hn := Aside0.mk (H.out.step hb); clear H; have H := Hn; clear Hn; clear hb) | (with_reducible refine (cFacts (H.out.read (at1 _ _ _)) HRP.out FP.out).mono ?_; rintro e w' ⟨rfl, hb⟩; replace hz0 := (hb.cell (World.block_lt_of_cell? _ _ hz0)).trans hz0; replace hz1 := (hb.cell (World.block_lt_of_cell? _ _ hz1)).trans hz1; have Hn := Aside0.mk (H.out.step hb); clear H; have H := Hn; clear Hn; clear hb) | (with_reducible refine (cFacts (H.out.read (at2 _ _ _ _)) HRD.out FD.out).mono ?_; rintro e w' ⟨rfl, hb⟩; replace hz0 := (hb.cell (World.block_lt_of_cell? _ _ hz0)).trans hz0; replace hz1 := (hb.cell (World.block_lt_of_cell? _ _ hz1)).trans hz1; have Hn := Aside0.mk (H.out.step hb); clear H; have H := Hn; clear Hn; clear hb) | (with_reducible refine (cFacts (H.out.read (at3 _ _ _ _ _)) HRB.out FB.out).mono ?_; rintro e w' ⟨rfl, hb⟩; have Hn := Aside0.mk (H.out.step hb); clear H; have H := Hn; clear Hn; clear hb) | (with_reducible refine (cFacts (RR.out _ H.out.below).1 (RR.out _ H.out.below).2.2.1 FL.out).mono ?_; rintro e w' ⟨rfl, hb⟩; have Hn := Aside0.mk (H.out.step hb); clear H; have H := Hn; clear Hn; clear hb) | (with_reducible refine (cFacts (RR.out _ H.out.below).2.1 (RR.out _ H.out.below).2.2.2.1 FM.out).mono ?_; rintro e w' ⟨rfl, hb⟩; have Hn := Aside0.mk (H.out.step hb); clear H; have H := Hn; clear Hn; clear hb))
  | (go_at_call 41; with_reducible refine (cTwin (RR.out _ H.out.below).2.2.1 FL.out).mono ?_; rintro e w' ⟨At, ct, rfl, hR, hS, hb⟩; have HTS := Aside0.mk (And.intro hS (And.intro hb H.out.below.size)); have HTW := H; have Hn := Aside0.mk (H.out.step hb); clear H; have H := Hn; clear Hn; clear hb; clear hR hS)
  | (at_builtin; obtain ⟨Au, cu, wu, happ, hT, hb⟩ := appendC' _ At n ct A1 n2 c1 l m HTS.out.1 RM3.out H.out.below HTS.out.2.2 HTS.out.2.1.size H60.out; refine append_guarded _ (by rfl) _ _ _ _ rfl _ _ rfl rfl _ _ (happ _) ?_; have HT := Aside0.mk hT; have Hn := Aside0.mk (HTW.out.step (HTS.out.2.1.trans hb)); clear H HTW HTS; have H := Hn; clear Hn hT hb happ)
  | (go_at_call 47; first | (with_reducible refine (Held.spoil (q := ⟨.slice A4 _ c4, rO, _, _⟩) H.out FO.out).mono ?_; rintro e w' ⟨rfl, hH⟩; have Hn := Aside0.mk hH; clear H; have H := Hn; clear Hn hH) | (with_reducible refine (Held.spoil (q := ⟨.slice A5 _ c5, rP, _, _⟩) H.out FP.out).mono ?_; rintro e w' ⟨rfl, hH⟩; have Hn := Aside0.mk hH; clear H; have H := Hn; clear Hn hH) | (with_reducible refine (Held.spoil (q := ⟨.slice A6 _ c6, rD, _, _⟩) H.out FD.out).mono ?_; rintro e w' ⟨rfl, hH⟩; have Hn := Aside0.mk hH; clear H; have H := Hn; clear Hn hH) | (with_reducible refine (Held.spoil (q := ⟨.slice A7 _ c7, rB, _, _⟩) H.out FB.out).mono ?_; rintro e w' ⟨rfl, hH⟩; have Hn := Aside0.mk hH; clear H; have H := Hn; clear Hn hH))
  | (go_at_call 31; (with_reducible refine (constablelaw04_wakes.calls true _ rfl).mono ?_; rintro e w' ⟨rfl, hb⟩; have Hn := Aside0.mk (H.out.step hb); clear H; have H := Hn; clear Hn; clear hb)))
        go_ret
        exact ⟨rfl, fin.out _ H.out.below⟩
end Go.Proofs.Ytghommaokdhjmaa.Exact
/- SetsExact: the ways out at once; the law whole. -/
set_option linter.unusedVariables false
set_option linter.unusedSimpArgs false
namespace Go.Proofs.Ytghommaokdhjmaa.Exact
open Go.Shelf Go.RowKit Go.Lib Go.Sort Go.Proofs.SymP Go.Proofs.YtghommaokdhjmaaW.PrintWords Go.Proofs.Ytghommaokdhjmaa.P Go.Proofs.Ytghommaokdhjmaa.Str Go.Proofs.Ytghommaokdhjmaa.CmpF Go.Proofs.Ytghommaokdhjmaa.Fct Go.Proofs.Ytghommaokdhjmaa.FactC Go.Proofs.Ytghommaokdhjmaa.SetsW Go.Proofs.Ytghommaokdhjmaa.PSets
set_option maxHeartbeats 8000000 in
set_option maxRecDepth 1000000 in
theorem exact_early (A0 A1 Af : Option Addr) (c0 c1 cf n n2 nf : Nat) (l m : List S53) (y : S53) (w : World) (hl0 : Row w A0 n c0 l) (hm0 : Row w A1 n2 c1 m) (hy0 : FRow w Af nf cf y) (k1 k2 : Bool)
    (kl : Ev (fun k => constablelaw03_Many.f k l) k1) (km : k1 = false → Ev (fun k => constablelaw03_Many.f k m) k2) (ky : k1 = false → k2 = false → Ev (fun k => constablelaw03_Heavy.f k y.f0 y.f1) true) :
    Calls Try.prog 9 #[.slice A0 n c0, .slice A1 n2 c1, .agg #[.string y.f0, .slice Af nf cf]] w fun e w' => e = .returned (.bool true) ∧ Go.RowKit.Below w.heap.size w w' := by
  have hu := Try.underlying53
  have RL : Aside0 (∀ W, Go.RowKit.Below w.heap.size w W → Row W A0 n c0 l) := ⟨fun W hW => hl0.below hW⟩
  have RM : Aside0 (∀ W, Go.RowKit.Below w.heap.size w W → Row W A1 n2 c1 m) := ⟨fun W hW => hm0.below hW⟩
  have RY : Aside0 (∀ W, Go.RowKit.Below w.heap.size w W → FRow W Af nf cf y) := ⟨fun W hW => hy0.below hW⟩
  have KL := Aside0.mk kl; have KM := Aside0.mk km; have KY := Aside0.mk ky
  clear hl0 hm0 hy0 kl km ky
  have hz0 : (w.alloc (.cells #[.string y.f0, .slice Af nf cf] 53)).cell? ⟨w.heap.size, 0, none⟩ = some (.string y.f0) := by simp
  have hz1 : (w.alloc (.cells #[.string y.f0, .slice Af nf cf] 53)).cell? ⟨w.heap.size, 1, none⟩ = some (.slice Af nf cf) := by simp
  have HB : Aside0 (Go.RowKit.Below w.heap.size w (w.alloc (.cells #[.string y.f0, .slice Af nf cf] 53))) := ⟨(Go.RowKit.Below.refl _ w).alloc (Nat.le_refl _) _⟩
  cases k1 <;> cases k2
  all_goals
    go_enter Try.func9, Try.ntmps9
    go_wp2_with (first
      | (go_at_call 29; first | (with_reducible refine (cMany (RL.out _ HB.out) KL.out).mono ?_; rintro e w' ⟨rfl, hb⟩; replace hz0 := (hb.cell (World.block_lt_of_cell? _ _ hz0)).trans hz0; replace hz1 := (hb.cell (World.block_lt_of_cell? _ _ hz1)).trans hz1; have HBn := Aside0.mk (HB.out.trans (hb.mono HB.out.size)); clear HB; have HB := HBn; clear HBn hb) | (with_reducible refine (cMany (RM.out _ HB.out) (KM.out (by trivial))).mono ?_; rintro e w' ⟨rfl, hb⟩; replace hz0 := (hb.cell (World.block_lt_of_cell? _ _ hz0)).trans hz0; replace hz1 := (hb.cell (World.block_lt_of_cell? _ _ hz1)).trans hz1; have HBn := Aside0.mk (HB.out.trans (hb.mono HB.out.size)); clear HB; have HB := HBn; clear HBn hb))
      | (go_at_call 36; with_reducible refine (cHeavy (RY.out _ HB.out) (KY.out (by trivial) (by trivial))).mono ?_; rintro e w' ⟨rfl, hb⟩; replace hz0 := (hb.cell (World.block_lt_of_cell? _ _ hz0)).trans hz0; replace hz1 := (hb.cell (World.block_lt_of_cell? _ _ hz1)).trans hz1; have HBn := Aside0.mk (HB.out.trans (hb.mono HB.out.size)); clear HB; have HB := HBn; clear HBn hb))
    go_ret
    exact ⟨rfl, HB.out⟩
theorem exact_all (A0 A1 Af : Option Addr) (c0 c1 cf n n2 nf : Nat) (l m : List S53) (y : S53) (w : World) (hl0 : Row w A0 n c0 l) (hm0 : Row w A1 n2 c1 m) (hy0 : FRow w Af nf cf y) :
    Calls Try.prog 9 #[.slice A0 n c0, .slice A1 n2 c1, .agg #[.string y.f0, .slice Af nf cf]] w fun e w' => e = .returned (.bool true) ∧ Go.RowKit.Below w.heap.size w w' := by
  rcases many_cases l with h | ⟨h, h60, hs⟩
  · exact exact_early A0 A1 Af c0 c1 cf n n2 nf l m y w hl0 hm0 hy0 true true h (fun h => by cases h) (fun h => by cases h)
  rcases many_cases m with h2 | ⟨h2, h602, hs2⟩
  · exact exact_early A0 A1 Af c0 c1 cf n n2 nf l m y w hl0 hm0 hy0 false true h (fun _ => h2) (fun _ h => by cases h)
  rcases heavy_cases y.f0 y.f1 with h3 | ⟨h3, hs3⟩
  · exact exact_early A0 A1 Af c0 c1 cf n n2 nf l m y w hl0 hm0 hy0 false false h (fun _ => h2) (fun _ _ => h3)
  · exact exact_main A0 A1 Af c0 c1 cf n n2 nf l m y w hl0 hm0 hy0 h h2 h3 (small_fits h60 hs) (small_fits h602 hs2) (small_fit hs3) h60 h602
end Go.Proofs.Ytghommaokdhjmaa.Exact
namespace Go.Proofs.Ytghommaokdhjmaa.P
open Go.RowKit Go.Proofs.YtghommaokdhjmaaW.PrintWords
/-- The law's answer. -/
def constablelaw04_SetsExact.f (k : Nat) (l0 : List (S53)) (l1 : List (S53)) (a2_0 : ByteArray) (l2_1 : List (S24)) : Option (Bool) := some true
theorem constablelaw04_SetsExact.calls (k : Nat) (A0 : Option Addr) (c0 : Nat) (l0 : List (S53)) (A1 : Option Addr) (c1 : Nat) (l1 : List (S53)) (a2_0 : ByteArray) (A2_1 : Option Addr) (c2_1 : Nat) (l2_1 : List (S24)) (r : Bool) (w : World) (hr0 : Kd.C k53 w A0 l0.length l0) (hc0 : l0.length ≤ c0) (hr1 : Kd.C k53 w A1 l1.length l1) (hc1 : l1.length ≤ c1) (hr2_1 : Kd.C k24 w A2_1 l2_1.length l2_1) (hc2_1 : l2_1.length ≤ c2_1) (h : constablelaw04_SetsExact.f k l0 l1 a2_0 l2_1 = some r) :
    Calls Try.prog 9 #[.slice A0 l0.length c0, .slice A1 l1.length c1, .agg #[.string a2_0, .slice A2_1 l2_1.length c2_1]] w fun e w' => e = .returned (.bool r) ∧ Go.RowKit.Below w.heap.size w w' := by
  obtain rfl := Option.some.inj h
  exact Exact.exact_all A0 A1 A2_1 c0 c1 c2_1 l0.length l1.length l2_1.length l0 l1 ⟨a2_0, l2_1⟩ w ⟨hc0, hr0⟩ ⟨hc1, hr1⟩ ⟨rfl, hc2_1, hr2_1⟩
end Go.Proofs.Ytghommaokdhjmaa.P
namespace Go.Proofs.Ytghommaokdhjmaa.Pure
theorem setsExact (l0 l1 : List P.S53) (a2 : ByteArray) (l2 : List P.S24) : ∃ k, P.constablelaw04_SetsExact.f k l0 l1 a2 l2 = some true := ⟨0, rfl⟩
end Go.Proofs.Ytghommaokdhjmaa.Pure
/- What an argument's reading tells of its cells: whole numbers, texts, Values, Binds, and rows of them. -/
set_option linter.unusedVariables false
namespace Go.Proofs.Ytghommaokdhjmaa.Open
open Go.RowKit Go.Proofs.YtghommaokdhjmaaW.PrintWords Go.Proofs.Ytghommaokdhjmaa.P
variable {H : Type} {enc : TypeId × Value → H} {P : Program} {w : World} {base : Nat} {sp : Nat → Bool} {held : Bool}
theorem trod_int {t : TypeId} {k : IntKind} (ht : P.underlying t = some (.int k)) {fuel : Nat} {cs : List Value} {x : DataW H × List MemPlace} (h : DataW.trod enc P w base sp held fuel t cs = some x) : ∃ n, cs = [.int k n] ∧ (Lit.int k n).wf = true := by
  cases fuel with
  | zero => simp [DataW.trod] at h
  | succ n =>
    unfold DataW.trod at h
    rw [ht] at h
    split at h <;> simp_all
theorem trod_string {t : TypeId} (ht : P.underlying t = some .string) {fuel : Nat} {cs : List Value} {x : DataW H × List MemPlace} (h : DataW.trod enc P w base sp held fuel t cs = some x) : ∃ s, cs = [.string s] ∧ s.size ≤ maxLen := by
  cases fuel with
  | zero => simp [DataW.trod] at h
  | succ n =>
    unfold DataW.trod at h
    rw [ht] at h
    split at h <;> simp_all

/-- Readings of an element type tell a kind. -/
def Tells (H : Type) (enc : TypeId × Value → H) (P : Program) (base : Nat) (sp : Nat → Bool) (held : Bool) {α : Type} (d : Kd α) (e : TypeId) : Prop :=
  ∀ (w : World) (fuel : Nat) (cs : List Value) (x : DataW H × List MemPlace), DataW.trod enc P w base sp held fuel e cs = some x → ∃ p, d.K w p cs
theorem list_of {α : Type} {Q : Nat → α → Prop} : ∀ (n : Nat), (∀ i, i < n → ∃ p, Q i p) → ∃ l : List α, l.length = n ∧ ∀ j p, l[j]? = some p → Q j p
  | 0, _ => ⟨[], rfl, fun j p h => by simp at h⟩
  | n + 1, h => by
    obtain ⟨l, hl, hq⟩ := list_of n (fun i hi => h i (by omega))
    obtain ⟨p, hp⟩ := h n (by omega)
    refine ⟨l ++ [p], by simp [hl], fun j q hj => ?_⟩
    rcases Nat.lt_trichotomy j n with h1 | h1 | h1
    · rw [List.getElem?_append_left (by omega)] at hj; exact hq j q hj
    · subst h1
      rw [List.getElem?_append_right (by omega), hl, Nat.sub_self] at hj
      obtain rfl : p = q := by simpa using hj
      exact hp
    · rw [List.getElem?_eq_none (by simp; omega)] at hj; cases hj
theorem add_add' (a : Addr) (i j : Nat) : (a.add i).add j = a.add (i + j) := by
  unfold Addr.add
  by_cases hi : i = 0 <;> by_cases hj : j = 0 <;> simp [hi, hj, Nat.add_assoc]
theorem tells_row {α : Type} {d : Kd α} {t e : TypeId} (ht : P.underlying t = some (.slice e)) (hs : P.cellsOf e = d.sz) (hd : Tells H enc P base sp held d e) {fuel : Nat} {cs : List Value} {x : DataW H × List MemPlace}
    (h : DataW.trod enc P w base sp held fuel t cs = some x) : ∃ (A : Option Addr) (c : Nat) (l : List α), cs = [.slice A l.length c] ∧ l.length ≤ c ∧ Kd.C d w A l.length l := by
  rcases DataW.trod_slice ht h with ⟨rfl, _⟩ | ⟨a, len, cap, elems, rest, n, _, rfl, _, _, hl, hcm, hlen, hel, _⟩
  · exact ⟨none, 0, [], rfl, Nat.le_refl _, rfl, by simp, fun h => absurd h (Nat.lt_irrefl _)⟩
  · have hex : ∀ i, i < len → ∃ (p : α), ∃ c : List Value, c.length = d.sz ∧ d.K w p c ∧ ∀ j u, c[j]? = some u → w.cell? (a.add (i * d.sz + j)) = some u := by
      intro i hi
      have h1 := hel i hi
      rw [List.getElem?_eq_getElem (by omega), Option.bind_eq_some_iff] at h1
      obtain ⟨c, hc, htr⟩ := h1
      obtain ⟨p, hp⟩ := hd w _ _ _ htr
      obtain ⟨_, hcl, hcell⟩ := World.cells?_some hc
      refine ⟨p, c, by rw [hcl, hs], hp, fun j u hj => ?_⟩
      have hj' : j < P.cellsOf e := by rw [← hcl]; exact (List.getElem?_eq_some_iff.1 hj).1
      rw [← hs, ← add_add', hcell j hj', hj]
    obtain ⟨l, hll, hq⟩ := list_of len hex
    refine ⟨some a, cap, l, by rw [hll], by omega, rfl, by unfold maxLen at hcm; omega, fun _ => ⟨a, rfl, hq⟩⟩

set_option maxRecDepth 100000 in
theorem tells24 : Tells H enc Try.prog base sp held k24 24 := by
  intro w fuel cs x h
  obtain ⟨xs, n, _, rfl, hl, hlen, hf⟩ := DataW.trod_struct Try.underlying24 h
  have hc : Try.prog.cellsOf 24 = 3 := by kernel_rfl
  have h9 : Try.prog.cellsOf 9 = 1 := by kernel_rfl
  have h3 : Try.prog.cellsOf 3 = 1 := by kernel_rfl
  rw [hc] at hl
  obtain ⟨a, b, c, rfl⟩ : ∃ a b c, cs = [a, b, c] := by
    match cs, hl with
    | [a, b, c], _ => exact ⟨a, b, c, rfl⟩
  obtain ⟨y0, y1, y2, rfl⟩ : ∃ y0 y1 y2, xs = [y0, y1, y2] := by
    match xs, hlen with
    | [y0, y1, y2], _ => exact ⟨y0, y1, y2, rfl⟩
  have g0 : DataW.trod enc Try.prog w base sp held n 3 (List.take (Try.prog.cellsOf 3) (List.drop 0 [a, b, c])) = some y0 := hf 0 _ rfl
  have g1 : DataW.trod enc Try.prog w base sp held n 3 (List.take (Try.prog.cellsOf 3) (List.drop 1 [a, b, c])) = some y1 := hf 1 _ rfl
  have g2 : DataW.trod enc Try.prog w base sp held n 9 (List.take (Try.prog.cellsOf 9) (List.drop 2 [a, b, c])) = some y2 := hf 2 _ rfl
  rw [h3] at g0 g1
  rw [h9] at g2
  obtain ⟨n0, e0, _⟩ := trod_int Try.underlying3 g0
  obtain ⟨n1, e1, _⟩ := trod_int Try.underlying3 g1
  obtain ⟨s2, e2, _⟩ := trod_string Try.underlying9 g2
  obtain rfl : a = _ := by simpa using e0
  obtain rfl : b = _ := by simpa using e1
  obtain rfl : c = _ := by simpa using e2
  exact ⟨⟨n0, n1, s2⟩, k24_mk w _⟩
set_option maxRecDepth 100000 in
theorem tells39 : Tells H enc Try.prog base sp held k39 39 := by
  intro w fuel cs x h
  obtain ⟨xs, n, _, rfl, hl, hlen, hf⟩ := DataW.trod_struct Try.underlying39 h
  have hc : Try.prog.cellsOf 39 = 4 := by kernel_rfl
  have h9 : Try.prog.cellsOf 9 = 1 := by kernel_rfl
  have h3 : Try.prog.cellsOf 24 = 3 := by kernel_rfl
  rw [hc] at hl
  obtain ⟨a, b, c, e, rfl⟩ : ∃ a b c e, cs = [a, b, c, e] := by
    match cs, hl with
    | [a, b, c, e], _ => exact ⟨a, b, c, e, rfl⟩
  obtain ⟨y0, y1, rfl⟩ : ∃ y0 y1, xs = [y0, y1] := by
    match xs, hlen with
    | [y0, y1], _ => exact ⟨y0, y1, rfl⟩
  have g0 : DataW.trod enc Try.prog w base sp held n 9 (List.take (Try.prog.cellsOf 9) (List.drop 0 [a, b, c, e])) = some y0 := hf 0 _ rfl
  have g1 : DataW.trod enc Try.prog w base sp held n 24 (List.take (Try.prog.cellsOf 24) (List.drop 1 [a, b, c, e])) = some y1 := hf 1 _ rfl
  rw [h9] at g0
  rw [h3] at g1
  obtain ⟨s0, e0, _⟩ := trod_string Try.underlying9 g0
  obtain ⟨v, hv⟩ := tells24 w _ _ _ g1
  obtain rfl : a = _ := by simpa using e0
  have hv' := k24_open hv
  simp only [List.drop_succ_cons, List.drop_zero, List.take_succ_cons, List.take_zero, List.cons.injEq, and_true] at hv'
  obtain ⟨rfl, rfl, rfl⟩ := hv'
  exact ⟨⟨s0, v⟩, k39_mk w _⟩
end Go.Proofs.Ytghommaokdhjmaa.Open
/- What an argument's reading tells of its cells: Terms, Facts, Atoms; no condition. -/
set_option linter.unusedVariables false
namespace Go.Proofs.Ytghommaokdhjmaa.Open
open Go.RowKit Go.Proofs.YtghommaokdhjmaaW.PrintWords Go.Proofs.Ytghommaokdhjmaa.P
variable {H : Type} {enc : TypeId × Value → H} {P : Program} {w : World} {base : Nat} {sp : Nat → Bool} {held : Bool}
set_option maxRecDepth 100000 in
theorem tells77 : Tells H enc Try.prog base sp held k77 77 := by
  intro w fuel cs x h
  obtain ⟨xs, n, _, rfl, hl, hlen, hf⟩ := DataW.trod_struct Try.underlying77 h
  have hc : Try.prog.cellsOf 77 = 4 := by kernel_rfl
  have h9 : Try.prog.cellsOf 9 = 1 := by kernel_rfl
  have h3 : Try.prog.cellsOf 24 = 3 := by kernel_rfl
  rw [hc] at hl
  obtain ⟨a, b, c, e, rfl⟩ : ∃ a b c e, cs = [a, b, c, e] := by
    match cs, hl with
    | [a, b, c, e], _ => exact ⟨a, b, c, e, rfl⟩
  obtain ⟨y0, y1, rfl⟩ : ∃ y0 y1, xs = [y0, y1] := by
    match xs, hlen with
    | [y0, y1], _ => exact ⟨y0, y1, rfl⟩
  have g0 : DataW.trod enc Try.prog w base sp held n 9 (List.take (Try.prog.cellsOf 9) (List.drop 0 [a, b, c, e])) = some y0 := hf 0 _ rfl
  have g1 : DataW.trod enc Try.prog w base sp held n 24 (List.take (Try.prog.cellsOf 24) (List.drop 1 [a, b, c, e])) = some y1 := hf 1 _ rfl
  rw [h9] at g0
  rw [h3] at g1
  obtain ⟨s0, e0, _⟩ := trod_string Try.underlying9 g0
  obtain ⟨v, hv⟩ := tells24 w _ _ _ g1
  obtain rfl : a = _ := by simpa using e0
  have hv' := k24_open hv
  simp only [List.drop_succ_cons, List.drop_zero, List.take_succ_cons, List.take_zero, List.cons.injEq, and_true] at hv'
  obtain ⟨rfl, rfl, rfl⟩ := hv'
  exact ⟨⟨s0, v⟩, k77_mk w _⟩
set_option maxRecDepth 100000 in
theorem tells53 : Tells H enc Try.prog base sp held k53 53 := by
  intro w fuel cs x h
  obtain ⟨xs, n, _, rfl, hl, hlen, hf⟩ := DataW.trod_struct Try.underlying53 h
  have hc : Try.prog.cellsOf 53 = 2 := by kernel_rfl
  have h9 : Try.prog.cellsOf 9 = 1 := by kernel_rfl
  have h3 : Try.prog.cellsOf 51 = 1 := by kernel_rfl
  rw [hc] at hl
  obtain ⟨a, b, rfl⟩ : ∃ a b, cs = [a, b] := by
    match cs, hl with
    | [a, b], _ => exact ⟨a, b, rfl⟩
  obtain ⟨y0, y1, rfl⟩ : ∃ y0 y1, xs = [y0, y1] := by
    match xs, hlen with
    | [y0, y1], _ => exact ⟨y0, y1, rfl⟩
  have g0 : DataW.trod enc Try.prog w base sp held n 9 (List.take (Try.prog.cellsOf 9) (List.drop 0 [a, b])) = some y0 := hf 0 _ rfl
  have g1 : DataW.trod enc Try.prog w base sp held n 51 (List.take (Try.prog.cellsOf 51) (List.drop 1 [a, b])) = some y1 := hf 1 _ rfl
  rw [h9] at g0
  rw [h3] at g1
  obtain ⟨s0, e0, _⟩ := trod_string Try.underlying9 g0
  obtain ⟨A, c, l, hcs, hlc, hC⟩ := tells_row Try.underlying51 (by kernel_rfl) tells24 g1
  obtain rfl : a = _ := by simpa using e0
  obtain rfl : b = _ := by simpa using hcs
  exact ⟨⟨s0, l⟩, k53_mk w ⟨s0, l⟩ hlc hC⟩
set_option maxRecDepth 100000 in
theorem tells69 : Tells H enc Try.prog base sp held k69 69 := by
  intro w fuel cs x h
  obtain ⟨xs, n, _, rfl, hl, hlen, hf⟩ := DataW.trod_struct Try.underlying69 h
  have hc : Try.prog.cellsOf 69 = 2 := by kernel_rfl
  have h9 : Try.prog.cellsOf 9 = 1 := by kernel_rfl
  have h3 : Try.prog.cellsOf 67 = 1 := by kernel_rfl
  rw [hc] at hl
  obtain ⟨a, b, rfl⟩ : ∃ a b, cs = [a, b] := by
    match cs, hl with
    | [a, b], _ => exact ⟨a, b, rfl⟩
  obtain ⟨y0, y1, rfl⟩ : ∃ y0 y1, xs = [y0, y1] := by
    match xs, hlen with
    | [y0, y1], _ => exact ⟨y0, y1, rfl⟩
  have g0 : DataW.trod enc Try.prog w base sp held n 9 (List.take (Try.prog.cellsOf 9) (List.drop 0 [a, b])) = some y0 := hf 0 _ rfl
  have g1 : DataW.trod enc Try.prog w base sp held n 67 (List.take (Try.prog.cellsOf 67) (List.drop 1 [a, b])) = some y1 := hf 1 _ rfl
  rw [h9] at g0
  rw [h3] at g1
  obtain ⟨s0, e0, _⟩ := trod_string Try.underlying9 g0
  obtain ⟨A, c, l, hcs, hlc, hC⟩ := tells_row Try.underlying67 (by kernel_rfl) tells77 g1
  obtain rfl : a = _ := by simpa using e0
  obtain rfl : b = _ := by simpa using hcs
  exact ⟨⟨s0, l⟩, k69_mk w ⟨s0, l⟩ hlc hC⟩
end Go.Proofs.Ytghommaokdhjmaa.Open
/- The row of SetsExact: whatever the input, true; out of the printed walk and the plain law. -/
namespace Go.Proofs.Ytghommaokdhjmaa.setsExact
open Go.ChangeShapes Go.WideShapes Go.ChangeAt Go.RowKit Go.Proofs.YtghommaokdhjmaaW.PrintWords Go.Proofs.Ytghommaokdhjmaa.P Go.Proofs.Ytghommaokdhjmaa.Open
open Go.ChangeMaps (open_string shut_string)
set_option linter.unusedVariables false
theorem own : ownKnob Try.prog.godebug = none := by kernel_rfl
theorem laidOut : laidOutB Try.prog = true := by kernel_rfl
set_option maxRecDepth 100000 in
theorem lifted (os : Os) (started : os.Started) (H : Type) (enc : TypeId × Value → H) :
    ReturnsInHanded {} Try.checked os 9 .any (Rows.setsExactSpec.pre6 enc Try.prog Try.f9 Rows.setsExactRow.domain false) (Rows.setsExactSpec.post enc Try.prog Try.f9 false true false false) := by
  refine returnsInHanded_of_change_sized (C := Try.checked) own started (by kernel_rfl) Try.func9
    (ChangeSpec.witness6 (enc := enc) (C := Try.checked) false ⟨#[], #[.slice none 0 0, .slice none 0 0, .agg #[.string ByteArray.empty, .slice none 0 0]], []⟩ 8 (by kernel_rfl) (by kernel_rfl) (by kernel_rfl) (by kernel_rfl)) ?_
  intro W base args ds gs before hval0 hW hcnd hsz0 _
  have hval : ∀ (j : Nat) t v, Try.f9.params[j]? = some t → args[j]? = some v → Value.okWide Try.prog W .any base t v := hval0
  have hW' := hW
  obtain ⟨p, q, hA0, hV, rfl, hfz, hnd⟩ := hW
  have hA : DataW.TrodAll enc Try.prog W 0 (fun _ => true) true Try.f9.params.toList args.toList ds p := hA0
  rw [Try.params9] at hA hval
  obtain ⟨v0, vs0, d0, ds0, p0, q0, hargs, rfl, rfl, h0, r0⟩ := trodAll_cons hA
  obtain ⟨v1, vs1, d1, ds1, p1, q1, rfl, rfl, rfl, h1, r1⟩ := trodAll_cons r0
  obtain ⟨v2, vs2, d2, ds2, p2, q2, rfl, rfl, rfl, h2, r2⟩ := trodAll_cons r1
  obtain ⟨rfl, rfl, rfl⟩ := trodAll_nil r2
  obtain rfl : args = #[v0, v1, v2] := by cases args; simp_all
  obtain ⟨rfl, rfl⟩ := trodVars_none hV
  obtain ⟨a0, len0, cap0, rfl⟩ := okWide_slice Try.underlying46 (hval 0 46 v0 rfl rfl)
  have k0 := h0
  have lt0 : ∀ x ∈ p0, x.block < W.heap.size := by obtain ⟨m, hm⟩ := k0; exact DataW.trod_lt m _ _ _ hm
  obtain ⟨l0, rfl, hc0, hr0⟩ : ∃ l : List S53, len0 = l.length ∧ l.length ≤ cap0 ∧ Kd.C k53 W a0 l.length l := by
    obtain ⟨fuel, hf⟩ := h0
    obtain ⟨A, c, l, hcs, hl, hC⟩ := tells_row Try.underlying46 (by kernel_rfl) tells53 hf
    simp [Value.cells] at hcs
    obtain ⟨rfl, rfl, rfl⟩ := hcs
    exact ⟨l, rfl, hl, hC⟩
  obtain ⟨a1, len1, cap1, rfl⟩ := okWide_slice Try.underlying46 (hval 1 46 v1 rfl rfl)
  have k1 := h1
  have lt1 : ∀ x ∈ p1, x.block < W.heap.size := by obtain ⟨m, hm⟩ := k1; exact DataW.trod_lt m _ _ _ hm
  obtain ⟨l1, rfl, hc1, hr1⟩ : ∃ l : List S53, len1 = l.length ∧ l.length ≤ cap1 ∧ Kd.C k53 W a1 l.length l := by
    obtain ⟨fuel, hf⟩ := h1
    obtain ⟨A, c, l, hcs, hl, hC⟩ := tells_row Try.underlying46 (by kernel_rfl) tells53 hf
    simp [Value.cells] at hcs
    obtain ⟨rfl, rfl, rfl⟩ := hcs
    exact ⟨l, rfl, hl, hC⟩
  obtain ⟨u2, rfl, _⟩ := okWide_struct Try.underlying53 (hval 2 53 v2 rfl rfl)
  have k2 := h2
  have lt2 : ∀ x ∈ p2, x.block < W.heap.size := by obtain ⟨m, hm⟩ := k2; exact DataW.trod_lt m _ _ _ hm
  obtain ⟨x2, a2, cap2, rfl, hc2, hr2⟩ : ∃ (x : S53) (a : Option Addr) (c : Nat), u2 = #[.string x.f0, .slice a x.f1.length c] ∧ x.f1.length ≤ c ∧ Kd.C k24 W a x.f1.length x.f1 := by
    obtain ⟨fuel, hf⟩ := h2
    obtain ⟨p, hp⟩ := tells53 W _ _ _ hf
    obtain ⟨a, c, e, hl, hC⟩ := k53_open hp
    exact ⟨p, a, c, Array.toList_inj.1 (by simpa [Value.cells] using e), hl, hC⟩
  clear hA0 hval0 hsz0
  obtain ⟨kf, hkf⟩ := Pure.setsExact l0 l1 x2.f0 x2.f1
  refine (P.constablelaw04_SetsExact.calls kf a0 cap0 l0 a1 cap1 l1 x2.f0 a2 cap2 x2.f1 true W hr0 hc0 hr1 hc1 hr2 hc2 hkf).mono fun e W' ⟨he, bel⟩ => ?_
  subst he
  exact ⟨_, rfl, _, _, _, [], _, [], hW', trodAll_mk1 (shut_bool Try.underlying4 _), (trodAll_cons_mk (Below.trod laidOut (by kernel_rfl) (of_decide_eq_true (by kernel_rfl)) k0 bel lt0) (trodAll_cons_mk (Below.trod laidOut (by kernel_rfl) (of_decide_eq_true (by kernel_rfl)) k1 bel lt1) (trodAll_cons_mk (Below.trod laidOut (by kernel_rfl) (of_decide_eq_true (by kernel_rfl)) k2 bel lt2) trodAll_mk0))), rfl, bel.frame _, fun h => by cases h⟩
theorem over : Rows.setsExactRow.holds Try.pinned (OpenSpec.ofChange Rows.setsExactSpec) :=
  OpenClaim.holds_of_wide 9 Try.f9 rfl rfl rfl rfl rfl rfl rfl ⟨rfl, rfl, rfl, rfl, rfl⟩ rfl rfl rfl rfl rfl (by kernel_rfl) Try.func9 (by kernel_rfl)
    (of_decide_eq_true (by kernel_rfl)) (by unfold Func.isWrapper; first | (rw [if_pos (by decide +kernel)]; kernel_rfl) | (rw [if_neg (by decide +kernel)]; exact ⟨rfl, rfl⟩))
    (fun os started H enc _ => lifted os started H enc)
theorem proved : Rows.SetsExactSaid := over
end Go.Proofs.Ytghommaokdhjmaa.setsExact
namespace Go.Proofs.Ytghommaokdhjmaa
/-- The row, under a short name, for the claim. -/
theorem setsExact_holds : Rows.SetsExactSaid := setsExact.proved
#print axioms setsExact_holds
end Go.Proofs.Ytghommaokdhjmaa
