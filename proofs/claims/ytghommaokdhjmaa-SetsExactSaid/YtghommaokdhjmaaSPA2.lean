/- A part of the proof: walks of the code and plain laws, printed and by hand; no condition. -/
import Derived.Test.YtghommaokdhjmaaSPA1
import Derived.Lib.SliceRun
import Derived.Lib.AppendZeros
/- The walk of slices.SortStableFunc's family at []api.Fact: the nil row; what is asked: the comparing function's contract (it may lay blocks), how the row lies. -/
set_option linter.unusedVariables false
set_option linter.unusedSimpArgs false
namespace Go.Proofs.Ytghommaokdhjmaa.SortF
open Go.Shelf Go.RowKit Go.Lib Go.Sort Go.Proofs.SymP
variable {P : Program}

set_option maxHeartbeats 4000000 in
set_option maxRecDepth 1000000 in
theorem insertion_nil (L : Lays P) (FG : P.funcs[123]? = some Try.f123) (g : Nat) (cb : Array Value) (w : World) : Calls P 123 #[.slice none 0 0, .int .i64 0, .int .i64 0, .func (.func g) #[] cb] w fun e w' => e = .returned (.tuple #[]) ∧ Go.RowKit.Below w.heap.size w w' := by
  have mixed := L.mixed; have t0 := L.t0; have a0 := L.a0; have z0 := L.z0; have v0 := L.v0; have tI := L.tI; have aI := L.aI; have zI := L.zI; have vI := L.vI; have tB := L.tB; have aB := L.aB; have zB := L.zB; have vB := L.vB; have tS := L.tS; have aS := L.aS; have zS := L.zS; have vS := L.vS; have tF := L.tF; have aF := L.aF; have zF := L.zF; have vF := L.vF; have tU := L.tU; have aU := L.aU; have zU := L.zU; have vU := L.vU
  go_enter FG, Try.ntmps123
  go_wp2
  go_loopg [8] 1 (fun kx s8 wr => s8 = .int .i64 1 ∧ w = wr)
  case atStart => exact ⟨rfl, rfl⟩
  case round =>
    obtain ⟨rfl, rfl⟩ := hrel
    go_wp2
    go_end0
    exact ⟨rfl, Go.RowKit.Below.refl _ _⟩

set_option maxHeartbeats 4000000 in
set_option maxRecDepth 1000000 in
theorem stable_nil (L : Lays P) (FI : P.funcs[123]? = some Try.f123) (g : Nat) (cb : Array Value) (w : World) : Calls P 114 #[.slice none 0 0, .int .i64 0, .func (.func g) #[] cb] w fun e w' => e = .returned (.tuple #[]) ∧ Go.RowKit.Below w.heap.size w w' := by
  have mixed := L.mixed; have t0 := L.t0; have a0 := L.a0; have z0 := L.z0; have v0 := L.v0; have tI := L.tI; have aI := L.aI; have zI := L.zI; have vI := L.vI; have tB := L.tB; have aB := L.aB; have zB := L.zB; have vB := L.vB; have tS := L.tS; have aS := L.aS; have zS := L.zS; have vS := L.vS; have tF := L.tF; have aF := L.aF; have zF := L.zF; have vF := L.vF; have tU := L.tU; have aU := L.aU; have zU := L.zU; have vU := L.vU
  have FG := L.Fst
  have ei : ∀ args w, (callFunc 123 args).run P w = .ok (.enter 123 args) w := enters_of FI (by kernel_rfl) rfl
  have hI := insertion_nil L FI g cb w
  go_enter FG, Try.ntmps114
  go_wp2
  go_loopg [7, 8] 1 (fun kx s7 s8 wr => s7 = .int .i64 0 ∧ s8 = .int .i64 20 ∧ w = wr)
  case atStart => exact ⟨rfl, rfl, rfl⟩
  case round =>
    obtain ⟨rfl, rfl, rfl⟩ := hrel
    go_wp2_with (go_at_fn 123; refine hI.mono ?_; rintro e w1 ⟨rfl, hB⟩)
    have HB : Aside _ := hB
    clear hB hI
    go_loopg [6] 1 (fun kx s6 wr => s6 = .int .i64 20 ∧ w1 = wr)
    case atStart => exact ⟨rfl, rfl⟩
    case round =>
      obtain ⟨rfl, rfl⟩ := hrel
      go_wp2
      go_end0
      exact ⟨rfl, HB.out⟩

set_option maxHeartbeats 4000000 in
set_option maxRecDepth 1000000 in
theorem sort_nil (L : Lays P) (FI : P.funcs[123]? = some Try.f123) (g : Nat) (cb : Array Value) (w : World) : Calls P 95 #[.slice none 0 0, .func (.func g) #[] cb] w fun e w' => e = .returned (.tuple #[]) ∧ Go.RowKit.Below w.heap.size w w' := by
  have mixed := L.mixed; have t0 := L.t0; have a0 := L.a0; have z0 := L.z0; have v0 := L.v0; have tI := L.tI; have aI := L.aI; have zI := L.zI; have vI := L.vI; have tB := L.tB; have aB := L.aB; have zB := L.zB; have vB := L.vB; have tS := L.tS; have aS := L.aS; have zS := L.zS; have vS := L.vS; have tF := L.tF; have aF := L.aF; have zF := L.zF; have vF := L.vF; have tU := L.tU; have aU := L.aU; have zU := L.zU; have vU := L.vU
  have FG := L.Fss
  have ei : ∀ args w, (callFunc 114 args).run P w = .ok (.enter 114 args) w := enters_of L.Fst (by kernel_rfl) rfl
  have hI := stable_nil L FI g cb w
  go_enter FG, Try.ntmps95
  go_wp2_with (go_at_fn 114; refine hI.mono ?_; rintro e w1 ⟨rfl, hB⟩)
  go_end0
  exact ⟨rfl, hB⟩

set_option maxHeartbeats 4000000 in
set_option maxRecDepth 1000000 in
theorem compactFunc_nil (L : Lays P) (FG : P.funcs[96]? = some Try.f96) (g : Nat) (cb : Array Value) (w : World) : Calls P 96 #[.slice none 0 0, .func (.func g) #[] cb] w fun e w' => e = .returned (.slice none 0 0) ∧ w' = w := by
  have mixed := L.mixed; have t0 := L.t0; have a0 := L.a0; have z0 := L.z0; have v0 := L.v0; have tI := L.tI; have aI := L.aI; have zI := L.zI; have vI := L.vI; have tB := L.tB; have aB := L.aB; have zB := L.zB; have vB := L.vB; have tS := L.tS; have aS := L.aS; have zS := L.zS; have vS := L.vS; have tF := L.tF; have aF := L.aF; have zF := L.zF; have vF := L.vF; have tU := L.tU; have aU := L.aU; have zU := L.zU; have vU := L.vU
  go_enter FG, Try.ntmps96
  go_wp2
  go_ret
  exact ⟨rfl, rfl⟩
end Go.Proofs.Ytghommaokdhjmaa.SortF
/- A row of facts of the call's own: another one's elements put behind it, sorted, compacted, some of it taken out. -/
set_option linter.unusedVariables false
set_option linter.unusedSimpArgs false
namespace Go.Proofs.Ytghommaokdhjmaa.Fct
open Go.Shelf Go.RowKit Go.Lib Go.Sort Go.Proofs.SymP Go.Proofs.YtghommaokdhjmaaW.PrintWords Go.Proofs.Ytghommaokdhjmaa.P Go.Proofs.Ytghommaokdhjmaa.Str Go.Proofs.Ytghommaokdhjmaa.CmpF Go.Proofs.Ytghommaokdhjmaa.SortF
theorem aggF : ∀ w, (isAgg 53).run Try.prog w = .ok true w := fun w => by kernel_rfl
theorem sizeF : ∀ w, (Go.sizeOf 53).run Try.prog w = .ok 2 w := fun w => by kernel_rfl
theorem zeroF : ∀ w, (zeroValue 53).run Try.prog w = .ok (.agg #[.string ⟨#[]⟩, .slice none 0 0]) w := fun w => by kernel_rfl
theorem infoF : ∃ i : TypeInfo, Try.prog.info? 53 = some i ∧ i.zero = some (.agg #[(.string ⟨#[]⟩), (.slice none 0 0)]) ∧ i.size = 2 ∧ i.bytes = 40 := by
  have h := info53
  cases hi : Try.prog.info? 53 with
  | none => rw [hi] at h; cases h
  | some i =>
    rw [hi] at h
    simp only [Option.map_some, Option.some.injEq, Prod.mk.injEq] at h
    exact ⟨i, rfl, h.1, h.2.1, h.2.2⟩
section
variable {w : World} {base : Nat} {okk : Nat → Prop} {v : Value} {l : List S53}
/-- Such a row, opened. -/
theorem open_S (h : Kd.S k53 53 w base okk v l) (hf : ∀ x ∈ l, x.f1.length ≤ 1000000) :
    (v = .slice none 0 0 ∧ l = []) ∨ ∃ (g cap : Nat) (cur : Array Value) (f : Nat → Nat) (L : List (FE w base (fun k => okk k ∧ k ≠ g) f)), v = .slice (some ⟨g, 0, none⟩) l.length cap ∧ L.map (·.x) = l ∧ (L.map (·.i)).Nodup ∧ base ≤ g ∧ g < w.heap.size ∧ w.heap[g]? = some (.cells cur 53 (0, 0)) ∧ l.length ≤ cap ∧ cap ≤ maxLen ∧ cur.size = cap * 2 ∧ Flat FE.enc 2 cur L.toArray ∧ L.length = l.length ∧ okk g := by
  obtain ⟨f, h0, inner, ho, hr⟩ := h
  rw [List.length_zipIdx] at ho
  rcases ho.2 with ⟨rfl, hn⟩ | ⟨g, cap, cur, rfl, hb, hg, hn, hm, hs, ht⟩
  · exact .inl ⟨rfl, List.length_eq_zero_iff.1 hn⟩
  · have hr' : Reps ((Kd.tag f k53).M w base (fun k => okk k ∧ k ≠ g)) 2 l.zipIdx inner := hr.imp_ (fun p c hp => (Kd.tag f k53).M_mono (fun k hk => ⟨hk.1, fun e => hk.2 (by rw [e]; rfl)⟩) hp)
    obtain ⟨L, h1, h2⟩ := list_of l.zipIdx inner hr' (fun p hp => hf _ (by
      obtain ⟨a, b, c⟩ := List.mem_zipIdx hp
      rw [c]; exact List.getElem_mem _))
    have hx : L.map (·.x) = l := by
      have := congrArg (List.map Prod.fst) h1
      rw [List.map_map, List.zipIdx_map_fst] at this
      exact this
    have hi : L.map (·.i) = List.range' 0 l.length := by
      have := congrArg (List.map Prod.snd) h1
      rw [List.map_map, List.zipIdx_map_snd] at this
      exact this
    have hl : L.length = l.length := by rw [← hx, List.length_map]
    refine .inr ⟨g, cap, cur, f, L, rfl, hx, by rw [hi]; exact List.nodup_range', hb, (Array.getElem?_eq_some_iff.1 hg).1, hg, hn, hm, hs, flat_of_take enc_len (by decide) ?_ ?_, hl, h0 g rfl⟩
    · rw [hs, hl]; exact Nat.mul_le_mul_right _ hn
    · rw [hl, h2]; exact ht
end
theorem perm_listF {α : Type} [Inhabited α] {d d' : Array α} {n : Nat} (hn : n = d.size) (h : PermIn 0 n d d') : d.toList.Perm d'.toList := by
  subst hn
  have h3 := h.2.2
  rw [show d.extract 0 d.size = d by simp, show d'.extract 0 d.size = d' by rw [← h.1]; simp] at h3
  exact h3.symm
theorem sorted_listF {α : Type} [Inhabited α] {c : α → α → Int} (sw : ∀ x y, c x y = - c y x) {d : Array α} {n : Nat} (hn : n = d.size) (h : SortedIn (ltOf c) 0 n d) : d.toList.Pairwise fun x y => c x y ≤ 0 := by
  subst hn
  refine List.pairwise_iff_getElem.2 fun i j hi hj hij => ?_
  have hi' : i < d.size := by simpa using hi
  have hj' : j < d.size := by simpa using hj
  have h1 := h i j (Nat.zero_le _) hij hj'
  have h2 : ¬ c d[j]! d[i]! < 0 := of_decide_eq_false h1
  rw [getElem!_pos d i hi', getElem!_pos d j hj'] at h2
  have := sw d[i] d[j]
  simp only [Array.getElem_toList]
  omega
/-- The sort of such a row. -/
theorem sortS (base : Nat) (v : Value) (l : List S53) (hl : l.length ≤ 1000000) (hf : ∀ x ∈ l, x.f1.length ≤ 1000000) (w : World) (ho : Kd.S k53 53 w base (fun _ => True) v l) (hb : base ≤ w.heap.size) :
    Calls Try.prog 95 #[v, .func (.func 48) #[] #[]] w fun e w' => e = .returned (.tuple #[]) ∧ ∃ m : List S53, m.Perm l ∧ m.Pairwise (fun x y => cf53 x y ≤ 0) ∧ Kd.S k53 53 w' base (fun _ => True) v m ∧ Go.RowKit.Below base w w' := by
  rcases open_S ho hf with ⟨rfl, rfl⟩ | ⟨g, cap, cur, f, L, rfl, hx, hnd, hbg, hgl, hg, hn, hc, hs, hF, hL, _⟩
  · refine (SortF.sort_nil SortF.lays Try.func123 _ _ w).mono ?_
    rintro e w' ⟨rfl, hB⟩
    exact ⟨rfl, [], List.Perm.refl _, List.Pairwise.nil, Kd.S_nil _ _ _ _ _, hB.mono hb⟩
  · have R : RowK FE.enc 2 w g 0 L.toArray := ⟨enc_len, enc_one, holds_of_flat hg hF, hgl⟩
    have eg : ∀ args w, (callFunc 48 args).run Try.prog w = .ok (.enter 48 args) w := enters_of Try.func48 (by kernel_rfl) rfl
    refine (SortF.sortStableFunc SortF.laysI SortF.lays 2 aggF sizeF FE.enc cfE 48 #[] g 0 l.length w eg (cmpE (fun k hk => hk.2)) cap L.toArray L.toArray w R (by simpa using hL) (by simpa using hL) (SWK.start R.hH) (swo_of ord53 (fun e : FE w base _ f => e.x)) (by omega)).mono ?_
    rintro e w' ⟨rfl, d', hS, hp, hso⟩
    have hsz : d'.size = l.length := by rw [hp.1]; simpa using hL
    have hpl : d'.toList.Perm L := by
      have := (perm_listF (by simpa using hL.symm) hp).symm
      simpa using this
    have hpx : (d'.toList.map (·.x)).Perm l := by rw [← hx]; exact hpl.map _
    have hsl := sorted_listF (c := cfE) (fun a b => ord53.swap a.x b.x) hsz.symm hso
    obtain ⟨cur', hg', hs', hF'⟩ := flat_swk hS hg (by rw [hsz, hs]; exact Nat.mul_le_mul_right _ hn)
    refine ⟨rfl, d'.toList.map (·.x), hpx, (by rw [List.pairwise_map]; exact hsl), ?_, below_swk hS hbg hgl⟩
    have how := own_shut (e := 53) enc_len (by decide) hg' hbg (hs'.trans hs) hc hF' d'.toList (List.prefix_refl _) (by rw [Array.length_toList, hsz]; exact hn)
    have hlen : d'.toList.length = l.length := by rw [Array.length_toList, hsz]
    have hS2 := row_S (W := w') (ok' := fun _ => True) (v := .slice (some ⟨g, 0, none⟩) d'.toList.length cap) ((hpl.map (·.i)).nodup_iff.2 hnd) (fun k hk hlt => swk_away hS k hlt hk.2) how (fun _ _ => trivial) (fun k hk => ⟨trivial, fun e => hk.2 (by simpa [Value.ownBlock] using e)⟩)
    rw [hlen] at hS2
    exact hS2
theorem keptUpTo_map {α β : Type} [Inhabited α] [Inhabited β] (g : α → β) (kp : Nat → Bool) (d : Array α) : (keptUpTo kp d d.size).map g = keptUpTo kp (d.map g) (d.map g).size := by
  unfold keptUpTo
  rw [List.map_map, Array.size_map]
  refine List.map_congr_left fun j hj => ?_
  have := List.mem_range.1 (List.mem_filter.1 hj).1
  simp only [Function.comp]
  rw [getElem!_pos d j this, getElem!_pos (d.map g) j (by simpa using this), Array.getElem_map]
theorem keptUpTo_sub {α : Type} [Inhabited α] (kp : Nat → Bool) (d : Array α) : (keptUpTo kp d d.size).Sublist d.toList := by
  rw [← range_map_get d]
  exact List.Sublist.map _ List.filter_sublist
instance : Inhabited S53 := ⟨z53⟩
/-- The compaction of such a row, sorted. -/
theorem compactS (base : Nat) (v : Value) (l : List S53) (hl : l.length ≤ 1000000) (hf : ∀ x ∈ l, x.f1.length ≤ 1000000) (hso : l.Pairwise (fun x y => cf53 x y ≤ 0)) (w : World) (ho : Kd.S k53 53 w base (fun _ => True) v l) (hb : base ≤ w.heap.size) :
    Calls Try.prog 96 #[v, .func (.func 97) #[] #[]] w fun e w' => ∃ v', e = .returned v' ∧ Kd.S k53 53 w' base (fun _ => True) v' (setO cf53 l) ∧ Go.RowKit.Below base w w' := by
  rcases open_S ho hf with ⟨rfl, rfl⟩ | ⟨g, cap, cur, f, L, rfl, hx, hnd, hbg, hgl, hg, hn, hc, hs, hF, hL, _⟩
  · refine (SortF.compactFunc_nil SortF.lays Try.func96 _ _ w).mono ?_
    rintro e w' ⟨rfl, rfl⟩
    exact ⟨_, rfl, Kd.S_nil _ _ _ _ _, Go.RowKit.Below.refl _ _⟩
  · have R : RowK FE.enc 2 w g 0 L.toArray := ⟨enc_len, enc_one, holds_of_flat hg hF, hgl⟩
    have eg : ∀ args w, (callFunc 97 args).run Try.prog w = .ok (.enter 97 args) w := enters_of Try.func97 (by kernel_rfl) rfl
    have hdz : L.toArray.size = l.length := by simpa using hL
    refine (SortF.compactFunc SortF.lays 2 aggF sizeF FE.enc g 0 l.length cap L.toArray L.toArray w w Try.func96 (fun a b => cfE a b == 0) 97 #[] eg (eqE (fun k hk => hk.2)) default zeroF R hdz hdz (SWK.start R.hH) (by omega) hn).mono ?_
    rintro e w' ⟨rfl, hS⟩
    have hset : (keptUpTo (kpE (fun a b : FE w base (fun k => True ∧ k ≠ g) f => cfE a b == 0) L.toArray) L.toArray L.toArray.size).map (·.x) = setO cf53 l := by
      rw [keptUpTo_map]
      have hmx : (L.toArray.map (·.x)) = l.toArray := by rw [← hx]; simp
      have h2 := kept_up ord53 (L.toArray.map (·.x)) (kpE (fun a b : FE w base (fun k => True ∧ k ≠ g) f => cfE a b == 0) L.toArray) (fun j hj => by
        have hj' : j < L.toArray.size := by simpa using hj
        unfold kpE
        rw [decide_eq_true_iff, getElem!_pos (L.toArray.map (·.x)) j hj, getElem!_pos (L.toArray.map (·.x)) (j - 1) (by omega), Array.getElem_map, Array.getElem_map, getElem!_pos L.toArray j hj', getElem!_pos L.toArray (j - 1) (by omega)]
        simp only [beq_eq_false_iff_ne]
        rfl) (fun i j hij hj => by
        rw [hmx] at hj ⊢
        have hj' : j < l.length := by simpa using hj
        rw [getElem!_pos l.toArray i (by simp; omega), getElem!_pos l.toArray j hj]
        exact List.pairwise_iff_getElem.1 hso i j (by omega) hj' hij)
      refine setO_one ord53 h2.1 (fun x => (h2.2 x).trans ?_)
      rw [hmx]
    have hsub := keptUpTo_sub (kpE (fun a b : FE w base (fun k => True ∧ k ≠ g) f => cfE a b == 0) L.toArray) L.toArray
    generalize keptUpTo (kpE (fun a b : FE w base (fun k => True ∧ k ≠ g) f => cfE a b == 0) L.toArray) L.toArray L.toArray.size = K at hS hset hsub ⊢
    have hKl : K.length ≤ l.length := by have := hsub.length_le; simpa [hL] using this
    have hsz : (K ++ List.replicate (L.toArray.size - K.length) (default : FE w base (fun k => True ∧ k ≠ g) f)).toArray.size = l.length := by simp; omega
    obtain ⟨cur', hg', hs', hF'⟩ := flat_swk hS hg (by rw [hsz, hs]; exact Nat.mul_le_mul_right _ hn)
    refine ⟨_, rfl, ?_, below_swk hS hbg hgl⟩
    have how := own_shut (e := 53) enc_len (by decide) hg' hbg (hs'.trans hs) hc hF' K (by simp) (by omega)
    rw [← hset]
    exact row_S (W := w') (ok' := fun _ => True) (v := .slice (some ⟨g, 0, none⟩) K.length cap) ((hsub.map (·.i)).nodup (by simpa using hnd)) (fun k hk hlt => swk_away hS k hlt hk.2) how (fun _ _ => trivial) (fun k hk => ⟨trivial, fun e => hk.2 (by simpa [Value.ownBlock] using e)⟩)
end Go.Proofs.Ytghommaokdhjmaa.Fct
/- A row of facts of the call's own: some of it taken out; another one's elements put behind it. -/
set_option linter.unusedVariables false
set_option linter.unusedSimpArgs false
namespace Go.Proofs.Ytghommaokdhjmaa.SortF
open Go.Shelf Go.RowKit Go.Lib Go.Sort Go.Proofs.SymP
variable {P : Program}
set_option maxHeartbeats 4000000 in
set_option maxRecDepth 1000000 in
theorem indexF_nil (L : Lays P) (FG : P.funcs[93]? = some Try.f93) (g : Nat) (cb : Array Value) (w : World) : Calls P 93 #[.slice none 0 0, .func (.func g) #[] cb] w fun e w' => e = .returned (.int .i64 (-1)) ∧ w' = w := by
  have mixed := L.mixed; have t0 := L.t0; have a0 := L.a0; have z0 := L.z0; have v0 := L.v0; have tI := L.tI; have aI := L.aI; have zI := L.zI; have vI := L.vI; have tB := L.tB; have aB := L.aB; have zB := L.zB; have vB := L.vB; have tS := L.tS; have aS := L.aS; have zS := L.zS; have vS := L.vS
  go_enter FG, Try.ntmps93
  go_wp2
  go_loopg [5, 8] 1 (fun kx _ s8 wr => s8 = .int .i64 0 ∧ w = wr)
  case atStart => exact ⟨rfl, rfl⟩
  case round =>
    obtain ⟨rfl, rfl⟩ := hrel
    go_wp2
    go_ret
    exact ⟨rfl, rfl⟩
set_option maxHeartbeats 4000000 in
set_option maxRecDepth 1000000 in
theorem deleteF_nil (L : Lays P) (FI : P.funcs[93]? = some Try.f93) (FG : P.funcs[75]? = some Try.f75) (g : Nat) (cb : Array Value) (w : World) : Calls P 75 #[.slice none 0 0, .func (.func g) #[] cb] w fun e w' => e = .returned (.slice none 0 0) ∧ w' = w := by
  have mixed := L.mixed; have t0 := L.t0; have a0 := L.a0; have z0 := L.z0; have v0 := L.v0; have tI := L.tI; have aI := L.aI; have zI := L.zI; have vI := L.vI; have tB := L.tB; have aB := L.aB; have zB := L.zB; have vB := L.vB; have tS := L.tS; have aS := L.aS; have zS := L.zS; have vS := L.vS
  have ei : ∀ args w, (callFunc 93 args).run P w = .ok (.enter 93 args) w := enters_of FI (by kernel_rfl) rfl
  have hI := indexF_nil L FI g cb w
  go_enter FG, Try.ntmps75
  go_wp2_with (go_at_fn 93; refine hI.mono ?_; rintro e w1 ⟨rfl, rfl⟩)
  go_ret
  exact ⟨rfl, rfl⟩
end Go.Proofs.Ytghommaokdhjmaa.SortF
namespace Go.Proofs.Ytghommaokdhjmaa.Fct
open Go.Shelf Go.RowKit Go.Lib Go.Sort Go.Proofs.SymP Go.Proofs.YtghommaokdhjmaaW.PrintWords Go.Proofs.Ytghommaokdhjmaa.P Go.Proofs.Ytghommaokdhjmaa.Str Go.Proofs.Ytghommaokdhjmaa.CmpF Go.Proofs.Ytghommaokdhjmaa.SortF
/-- What is like y is taken out. -/
theorem deleteS (base : Nat) (v : Value) (l : List S53) (hl : l.length ≤ 1000000) (hf : ∀ x ∈ l, x.f1.length ≤ 1000000) (w : World) (ho : Kd.S k53 53 w base (fun _ => True) v l) (hb : base ≤ w.heap.size)
    (g0 : Nat) (y : S53) (A1 : Option Addr) (c1 : Nat) (hy : y.f1.length ≤ 1000000) (hc1 : y.f1.length ≤ c1) (hq : ∀ W, Go.RowKit.Below base w W → W.cell? ⟨g0, 0, none⟩ = some (.string y.f0) ∧ W.cell? ⟨g0, 1, none⟩ = some (.slice A1 y.f1.length c1) ∧ Kd.C k24 W A1 y.f1.length y.f1) :
    Calls Try.prog 75 #[v, .func (.func 76) #[] #[.pointer (some ⟨g0, 0, none⟩)]] w fun e w' => ∃ v', e = .returned v' ∧ Kd.S k53 53 w' base (fun _ => True) v' (l.filter fun x => !(cf53 x y == 0)) ∧ Go.RowKit.Below base w w' := by
  rcases open_S ho hf with ⟨rfl, rfl⟩ | ⟨g, cap, cur, f, L, rfl, hx, hnd, hbg, hgl, hg, hn, hc, hs, hF, hL, _⟩
  · refine (SortF.deleteF_nil SortF.lays Try.func93 Try.func75 _ _ w).mono ?_
    rintro e w' ⟨rfl, rfl⟩
    exact ⟨_, rfl, Kd.S_nil _ _ _ _ _, Go.RowKit.Below.refl _ _⟩
  · have R : RowK FE.enc 2 w g 0 L.toArray := ⟨enc_len, enc_one, holds_of_flat hg hF, hgl⟩
    have eg : ∀ args w, (callFunc 76 args).run Try.prog w = .ok (.enter 76 args) w := enters_of Try.func76 (by kernel_rfl) rfl
    have hdz : L.toArray.size = l.length := by simpa using hL
    have hlays : DelLays Try.prog 76 #[.pointer (some ⟨g0, 0, none⟩)] (FE.enc (w := w) (base := base) (ok := fun k => True ∧ k ≠ g) (f := f)) 2 (fun a => cf53 a.x y == 0) g 0 L.toArray.size w := fun m os dk hdk a => by
      have hSW : SWK FE.enc 2 w g 0 dk (sortWorldK FE.enc 2 w g 0 m dk os) := ⟨m, os, rfl⟩
      obtain ⟨ha, hA⟩ := a.reads (W := sortWorldK FE.enc 2 w g 0 m dk os) (fun k hk hlt => swk_away hSW k hlt hk.2)
      obtain ⟨q0, q1, q2⟩ := hq _ (below_swk hSW hbg hgl)
      exact closDrop a.x.f0 a.A a.c a.x.f1 y.f0 A1 c1 y.f1 g0 _ q0 q1 hA ha q2 hc1 ⟨a.fit, hy⟩
    refine (SortF.deleteF SortF.lays (by rfl) aggF sizeF (fun a : FE w base (fun k => True ∧ k ≠ g) f => a.x.f0) (fun a => a.A) (fun a => a.x.f1.length) (fun a => a.c) g 0 l.length cap L.toArray L.toArray w w Try.func93 Try.func75 (fun a => cf53 a.x y == 0) 76 #[.pointer (some ⟨g0, 0, none⟩)] eg hlays default zeroF R hdz hdz (SWK.start R.hH) (by omega) hn).mono ?_
    rintro e w' ⟨rfl, hS⟩
    rw [keptUpTo_filter (fun a : FE w base (fun k => True ∧ k ≠ g) f => !(cf53 a.x y == 0)) L.toArray, List.toList_toArray] at hS ⊢
    have hset : (L.filter fun a => !(cf53 a.x y == 0)).map (·.x) = l.filter fun x => !(cf53 x y == 0) := by rw [← hx, List.filter_map]; rfl
    have hsub : (L.filter fun a => !(cf53 a.x y == 0)).Sublist L := List.filter_sublist
    generalize (L.filter fun a => !(cf53 a.x y == 0)) = K at hS hset hsub ⊢
    have hKl : K.length ≤ l.length := by have := hsub.length_le; simpa [hL] using this
    have hsz : (K ++ List.replicate (L.toArray.size - K.length) (default : FE w base (fun k => True ∧ k ≠ g) f)).toArray.size = l.length := by simp; omega
    have hS3 : SWK FE.enc 2 w g 0 (K ++ List.replicate (L.toArray.size - K.length) (default : FE w base (fun k => True ∧ k ≠ g) f)).toArray w' := hS
    obtain ⟨cur', hg', hs', hF'⟩ := flat_swk hS3 hg (by rw [hsz, hs]; exact Nat.mul_le_mul_right _ hn)
    refine ⟨_, rfl, ?_, below_swk hS3 hbg hgl⟩
    have how := own_shut (e := 53) enc_len (by decide) hg' hbg (hs'.trans hs) hc hF' K (by simp) (by omega)
    rw [← hset]
    exact row_S (W := w') (ok' := fun _ => True) (v := .slice (some ⟨g, 0, none⟩) K.length cap) ((hsub.map (·.i)).nodup (by simpa using hnd)) (fun k hk hlt => swk_away hS3 k hlt hk.2) how (fun _ _ => trivial) (fun k hk => ⟨trivial, fun e => hk.2 (by simpa [Value.ownBlock] using e)⟩)
/-- A row's elements put behind another one's. -/
theorem appendS {W : World} (b B : Nat) (u v : Value) (xs ys : List S53) (hu : Kd.S k53 53 W b (fun k => k < B) u xs) (hv : Kd.S k53 53 W b (fun k => B ≤ k) v ys) (hb : b ≤ W.heap.size) (hl : xs.length + ys.length ≤ 1000000) :
    ∃ u' w', (∀ ty, (Builtin.append_ #[46, 46] ty #[u, v]).run Try.prog W = .ok u' w') ∧ Kd.S k53 53 w' b (fun _ => True) u' (xs ++ ys) ∧ W.grownBy w' u.ownBlock := by
  obtain ⟨i, hi, hz, hsz, hby⟩ := infoF
  have ht : Try.prog.underlying 46 = some (.slice 53) := SortF.lays.tS
  obtain ⟨f, hu0, ui, uo, ur⟩ := hu
  obtain ⟨h, hv0, vi, vo, vr⟩ := hv
  rw [List.length_zipIdx] at uo vo
  by_cases hy : ys.length = 0
  · have hy0 : ys = [] := List.length_eq_zero_iff.1 hy
    subst hy0
    have hsl : ∃ p n cc, u = .slice p n cc ∧ n ≤ cc := by
      rcases uo.2 with ⟨rfl, _⟩ | ⟨g, cap, cur, rfl, _, _, hh, _⟩
      · exact ⟨_, _, _, rfl, Nat.le_refl _⟩
      · exact ⟨_, _, _, rfl, hh⟩
    have hsv : ∃ A c, v = .slice A 0 c := by
      rcases vo.2 with ⟨rfl, _⟩ | ⟨g, cap, cur, rfl, _⟩
      · exact ⟨_, _, rfl⟩
      · exact ⟨_, _, rfl⟩
    have hS : Kd.S k53 53 W b (fun _ => True) u xs := Kd.S_mono ⟨f, hu0, ui, by rw [List.length_zipIdx]; exact uo, ur⟩ (fun _ _ => trivial)
    obtain ⟨p, n, cc, rfl, hn⟩ := hsl
    obtain ⟨A, c, rfl⟩ := hsv
    refine ⟨_, W, fun ty => run_append_nothing (P := Try.prog) W 46 46 ty 53 i ht hi p n cc hn _ ?_, by rw [List.append_nil]; exact hS, ⟨rfl, rfl, rfl, Nat.le_refl _, fun _ _ _ => rfl⟩⟩
    cases A with
    | none => exact Src.ofNil W ht c
    | some ad => exact Src.ofSlice W ht ad 0 c [] (by simp) (fun j u h => by simp at h) (fun u h => by simp at h)
  · obtain ⟨g, cap, rfl, hgb, hgl⟩ : ∃ g cap, v = .slice (some ⟨g, 0, none⟩) ys.length cap ∧ b ≤ g ∧ g < W.heap.size := by
      rcases vo.2 with ⟨_, h0⟩ | ⟨g, cap, cur, rfl, h1, h2, _⟩
      · exact absurd h0 hy
      · exact ⟨g, cap, rfl, h1, (Array.getElem?_eq_some_iff.1 h2).1⟩
    have hone : ∀ x ∈ vi, x.oneCell' = true := by
      intro x hx
      obtain ⟨j, hj, rfl⟩ := List.getElem_of_mem hx
      have hvl : vi.length = ys.length * 2 := vo.1
      obtain ⟨p, hp⟩ : ∃ p, ys.zipIdx[j / 2]? = some p := ⟨_, List.getElem?_eq_getElem (by rw [List.length_zipIdx]; omega)⟩
      have h1 := ((Kd.tag h k53).K_one ((Kd.tag h k53).K_of_M (vr.2 _ p hp)))
      refine h1 _ ?_
      show vi[j] ∈ (vi.drop (j / 2 * 2)).take 2
      rw [List.mem_iff_getElem?]
      refine ⟨j % 2, ?_⟩
      rw [List.getElem?_take, if_pos (Nat.mod_lt _ (by decide)), List.getElem?_drop, show j / 2 * 2 + j % 2 = j by omega, List.getElem?_eq_getElem hj]
    obtain ⟨u', w', hr, ho, hg, _, hat⟩ := run_append_own_at (P := Try.prog) W b 46 0 53 i _ 2 40 ht hi hz hsz hby (by rfl) (by decide) u xs.length ui uo ⟨g, 0, none⟩ ys.length cap vi vo.1 (vo.cells rfl) hone (by unfold maxLen; omega) (by omega) hb
    refine ⟨u', w', fun ty => hr, ?_, hg⟩
    have hug : ∀ k, B ≤ k → some k ≠ u.ownBlock := fun k hk e => by have := hu0 k e.symm; omega
    have hlen : (xs ++ ys).zipIdx.length = xs.length + ys.length := by simp
    refine ⟨fun k => if B ≤ k then xs.length + h k else f k, fun _ _ => trivial, ui ++ vi, by rw [hlen]; exact ho, ?_, fun j p hj => ?_⟩
    · have h1 : ui.length = xs.length * 2 := uo.1
      have h2 : vi.length = ys.length * 2 := vo.1
      show (ui ++ vi).length = (xs ++ ys).zipIdx.length * 2
      rw [List.length_append, h1, h2, hlen, Nat.add_mul]
    · have hul : ui.length = xs.length * 2 := uo.1
      have hvl : vi.length = ys.length * 2 := vo.1
      have hne : ∀ k, k < W.heap.size → some k ≠ u.ownBlock → some k ≠ u'.ownBlock := fun k hk h1 h2 => by
        rcases hat with e | e
        · rw [e] at h2; exact h1 h2
        · rw [e] at h2
          injection h2 with h2
          omega
      rw [List.getElem?_zipIdx] at hj
      by_cases hjx : j < xs.length
      · rw [List.getElem?_append_left hjx] at hj
        have hM := ur.2 j (xs[j], j) (by rw [List.getElem?_zipIdx, List.getElem?_eq_getElem hjx]; simp)
        rw [List.getElem?_eq_getElem hjx] at hj
        simp only [Option.map_some, Nat.zero_add, Option.some.injEq] at hj
        subst hj
        have hcs : ((ui ++ vi).drop (j * 2)).take 2 = (ui.drop (j * 2)).take 2 := by
          rw [List.drop_append_of_le_length (by omega), List.take_append_of_le_length (by rw [List.length_drop]; omega)]
        show k53.M w' b _ xs[j] (((ui ++ vi).drop (j * 2)).take 2)
        rw [hcs]
        have hM2 : k53.M W b (fun k => (k < B ∧ some k ≠ u.ownBlock) ∧ f k = j) xs[j] ((ui.drop (j * 2)).take 2) := hM
        refine k53.M_mono (fun k hk => ?_) (Kd.M_grown (k53.M_bound hM2) hg (fun k hk => hk.1.1.2))
        refine ⟨⟨trivial, hne k hk.2.2.1 hk.1.1.2⟩, ?_⟩
        show (if B ≤ k then xs.length + h k else f k) = j
        rw [if_neg (by have := hk.1.1.1; omega)]
        exact hk.1.2
      · rw [List.getElem?_append_right (by omega)] at hj
        cases hp : ys[j - xs.length]? with
        | none => rw [hp] at hj; simp at hj
        | some y =>
          rw [hp] at hj
          simp only [Option.map_some, Nat.zero_add, Option.some.injEq] at hj
          subst hj
          have hM := vr.2 (j - xs.length) (y, j - xs.length) (by rw [List.getElem?_zipIdx, hp]; simp)
          have hcs : ((ui ++ vi).drop (j * 2)).take 2 = (vi.drop ((j - xs.length) * 2)).take 2 := by
            rw [List.drop_append, List.drop_eq_nil_of_le (by omega), List.nil_append, hul, ← Nat.sub_mul]
          show k53.M w' b _ y (((ui ++ vi).drop (j * 2)).take 2)
          rw [hcs]
          have hM2 : k53.M W b (fun k => (B ≤ k ∧ some k ≠ (Value.slice (some ⟨g, 0, none⟩) ys.length cap).ownBlock) ∧ h k = j - xs.length) y ((vi.drop ((j - xs.length) * 2)).take 2) := hM
          refine k53.M_mono (fun k hk => ?_) (Kd.M_grown (k53.M_bound hM2) hg (fun k hk => hug k hk.1.1.1))
          refine ⟨⟨trivial, hne k hk.2.2.1 (hug k hk.1.1.1)⟩, ?_⟩
          show (if B ≤ k then xs.length + h k else f k) = j
          rw [if_pos hk.1.1.1, hk.1.2]
          omega
end Go.Proofs.Ytghommaokdhjmaa.Fct
/- slices.Clone at []Bind: a row of the call's own with the same elements; no condition but the bound on a row's bytes. -/
set_option linter.unusedVariables false
set_option linter.unusedSimpArgs false
namespace Go.Proofs.Ytghommaokdhjmaa.P
open Go.RowKit Go.Proofs.YtghommaokdhjmaaW.PrintWords Go.Proofs.YtghommaokdhjmaaW.PrintLast Go.Proofs.Ytghommaokdhjmaa.Gate
/-- A row that was built empty. -/
theorem built_nil {α : Type} (d : Kd α) (e : Nat) (w : World) : Kd.R d e (w.alloc (.cells #[] e)) w.heap.size (fun _ => True) (.slice (some ⟨w.heap.size, 0, none⟩) 0 0) [] :=
  ⟨fun _ _ => trivial, [], ⟨by simp, .inr ⟨w.heap.size, 0, #[], rfl, Nat.le_refl _, heap_alloc_new _ _, Nat.le_refl _, Nat.zero_le _, by simp, by simp⟩⟩, Reps.none _ _⟩
def api_Bind_84.f (l0 : List (S39)) : Option ((List (S39))) := if ([] : List (S39)).length + l0.length < 2932031007402 then (some (([] : List (S39)) ++ l0)) else (none)
set_option maxHeartbeats 8000000 in
set_option maxRecDepth 100000 in
theorem api_Bind_84.calls (A0 : Option Addr) (c0 : Nat) (l0 : List (S39)) (r : List (S39)) (w : World) (hr0 : Kd.C k39 w A0 l0.length l0) (hc0 : l0.length ≤ c0) (h : api_Bind_84.f l0 = some r) :
    Calls Try.prog 84 #[.slice A0 l0.length c0] w fun e w' => ∃ v0_ : Value, e = .returned (v0_) ∧ Kd.R k39 39 w' w.heap.size (fun _ => True) v0_ r ∧ Below w.heap.size w w' := by
  have HR0 := Aside0.mk hr0
  have HC0 := Aside0.mk hc0
  have HB := Aside0.mk (Below.refl w.heap.size w)
  have H : (if ([] : List (S39)).length + l0.length < 2932031007402 then (some (([] : List (S39)) ++ l0)) else (none)) = some r := h
  clear h
  by_cases c2 : ([] : List (S39)).length + l0.length < 2932031007402
  · rw [if_pos c2] at H
    have LMc2 := Aside0.mk c2
    clear c2
    obtain ⟨y103, hy103⟩ : ∃ y_ : List (S39), y_ = (([] : List (S39)) ++ l0) := ⟨_, rfl⟩
    replace H : (some y103) = some r := by rw [hy103]; exact H
    have Ny103 := Aside0.mk hy103
    obtain rfl := Option.some.inj H
    by_cases hA : A0 = none
    · subst hA
      obtain rfl : l0 = [] := by
        rcases l0 with _ | ⟨x, l⟩
        · rfl
        · obtain ⟨_, h, _⟩ := hr0.2.2 (by simp); cases h
      have e0 : y103 = [] := Ny103.out
      clear hr0 hc0 hy103
      subst e0
      have hq : ∀ W, Sem.run Try.prog (binOp .eql 22 (.slice none 0 c0) (.slice none 0 0)) W = .ok (.bool true) W := fun W => Lib.run_eql_slice_nil W 22 39 none _ c0 0 0 Try.underlying22
      go_enter Try.func84, Try.ntmps84
      go_wp2_with fail
      go_ret
      exact ⟨_, rfl, Kd.R_nil _ _ _ _ (fun _ => True), HB.out⟩
    · have hN : A0.isNone = false := by cases A0 with
        | none => exact absurd rfl hA
        | some _ => rfl
      clear hA
      clear hr0 hc0 hy103
      have hq : ∀ W, Sem.run Try.prog (binOp .eql 22 (.slice A0 l0.length c0) (.slice none 0 0)) W = .ok (.bool false) W := fun W => by rw [Lib.run_eql_slice_nil W 22 39 A0 _ c0 0 0 Try.underlying22, hN]
      clear hN
      go_enter Try.func84, Try.ntmps84
      go_wp2_with (first | ((with_reducible refine gate_builtin (b := .append) (xs := #[.tmp 5, .tmp 6]) rfl ?_); at_builtin; refine Kd.R_append_rows k39 (w0 := w) w.heap.size rfl (.tmp 5) (.tmp 6) 22 39 (.agg #[(.string ⟨#[]⟩), (.int .i64 0), (.int .i64 0), (.string ⟨#[]⟩)]) 48 rfl Try.underlying22 info39 rfl (by decide) (by omega) (.slice (some ⟨w.heap.size, 0, none⟩) 0 0) ([] : List (S39)) l0 _ _ _ (fun _ => True) (fun _ => False) rfl rfl ?aO ?aR (fun _ _ h => h) (fun _ h => h.elim) ?aF ?aB ?aS ?aL ?_; (case aR => exact Kd.C_alloc HR0.out _); (case aB => exact (by repeat (first | (with_reducible first | exact HB.out | apply below_alloc | apply pw_below_drewN | apply below_drew1) | exact HB.out))); (case aF => exact (fun _ _ => trivial)); (case aO => exact built_nil k39 39 w); (case aS => exact (below_size (by repeat (first | (with_reducible first | exact HB.out | apply below_alloc | apply pw_below_drewN | apply below_drew1) | exact HB.out)))); (case aL => have := LMc2.out; omega); intro v104 w3 ho hb hg hat; rw [← Ny103.out] at ho; have n0_ := Aside0.mk (hb); have n1_ := Aside0.mk (ho); clear HB; have HB := n0_; have HO105 := n1_; clear n0_ n1_; clear ho hb hg hat))
      go_ret
      exact ⟨_, by first | rfl | (simp [errW_none, errW_some] <;> rfl) | (simp [*, errW_none, errW_some] <;> rfl), by (with_reducible repeat (first | apply Kd.R_alloc | apply Kd.R_drewN | apply Kd.R_drew)); exact HO105.out, by repeat (first | (with_reducible first | exact HB.out | apply below_alloc | apply pw_below_drewN | apply below_drew1) | exact HB.out)⟩
  · rw [if_neg c2] at H
    exact absurd H (by simp)
end Go.Proofs.Ytghommaokdhjmaa.P
/- slices.Clone at []Value: a row of the call's own with the same elements; no condition but the bound on a row's bytes. -/
set_option linter.unusedVariables false
set_option linter.unusedSimpArgs false
namespace Go.Proofs.Ytghommaokdhjmaa.P
open Go.RowKit Go.Proofs.YtghommaokdhjmaaW.PrintWords Go.Proofs.YtghommaokdhjmaaW.PrintLast Go.Proofs.Ytghommaokdhjmaa.Gate
def api_Value_122.f (l0 : List (S24)) : Option ((List (S24))) := if ([] : List (S24)).length + l0.length < 4398046511104 then (some (([] : List (S24)) ++ l0)) else (none)
set_option maxHeartbeats 8000000 in
set_option maxRecDepth 100000 in
theorem api_Value_122.calls (A0 : Option Addr) (c0 : Nat) (l0 : List (S24)) (r : List (S24)) (w : World) (hr0 : Kd.C k24 w A0 l0.length l0) (hc0 : l0.length ≤ c0) (h : api_Value_122.f l0 = some r) :
    Calls Try.prog 122 #[.slice A0 l0.length c0] w fun e w' => ∃ v0_ : Value, e = .returned (v0_) ∧ Kd.R k24 24 w' w.heap.size (fun _ => True) v0_ r ∧ Below w.heap.size w w' := by
  have HR0 := Aside0.mk hr0
  have HC0 := Aside0.mk hc0
  have HB := Aside0.mk (Below.refl w.heap.size w)
  have H : (if ([] : List (S24)).length + l0.length < 4398046511104 then (some (([] : List (S24)) ++ l0)) else (none)) = some r := h
  clear h
  by_cases c2 : ([] : List (S24)).length + l0.length < 4398046511104
  · rw [if_pos c2] at H
    have LMc2 := Aside0.mk c2
    clear c2
    obtain ⟨y103, hy103⟩ : ∃ y_ : List (S24), y_ = (([] : List (S24)) ++ l0) := ⟨_, rfl⟩
    replace H : (some y103) = some r := by rw [hy103]; exact H
    have Ny103 := Aside0.mk hy103
    obtain rfl := Option.some.inj H
    by_cases hA : A0 = none
    · subst hA
      obtain rfl : l0 = [] := by
        rcases l0 with _ | ⟨x, l⟩
        · rfl
        · obtain ⟨_, h, _⟩ := hr0.2.2 (by simp); cases h
      have e0 : y103 = [] := Ny103.out
      clear hr0 hc0 hy103
      subst e0
      have hq : ∀ W, Sem.run Try.prog (binOp .eql 51 (.slice none 0 c0) (.slice none 0 0)) W = .ok (.bool true) W := fun W => Lib.run_eql_slice_nil W 51 24 none _ c0 0 0 Try.underlying51
      go_enter Try.func122, Try.ntmps122
      go_wp2_with fail
      go_ret
      exact ⟨_, rfl, Kd.R_nil _ _ _ _ (fun _ => True), HB.out⟩
    · have hN : A0.isNone = false := by cases A0 with
        | none => exact absurd rfl hA
        | some _ => rfl
      clear hA
      clear hr0 hc0 hy103
      have hq : ∀ W, Sem.run Try.prog (binOp .eql 51 (.slice A0 l0.length c0) (.slice none 0 0)) W = .ok (.bool false) W := fun W => by rw [Lib.run_eql_slice_nil W 51 24 A0 _ c0 0 0 Try.underlying51, hN]
      clear hN
      go_enter Try.func122, Try.ntmps122
      go_wp2_with (first | ((with_reducible refine gate_builtin (b := .append) (xs := #[.tmp 5, .tmp 6]) rfl ?_); at_builtin; refine Kd.R_append_rows k24 (w0 := w) w.heap.size rfl (.tmp 5) (.tmp 6) 51 24 (.agg #[(.int .i64 0), (.int .i64 0), (.string ⟨#[]⟩)]) 32 rfl Try.underlying51 info24 rfl (by decide) (by omega) (.slice (some ⟨w.heap.size, 0, none⟩) 0 0) ([] : List (S24)) l0 _ _ _ (fun _ => True) (fun _ => False) rfl rfl ?aO ?aR (fun _ _ h => h) (fun _ h => h.elim) ?aF ?aB ?aS ?aL ?_; (case aR => exact Kd.C_alloc HR0.out _); (case aB => exact (by repeat (first | (with_reducible first | exact HB.out | apply below_alloc | apply pw_below_drewN | apply below_drew1) | exact HB.out))); (case aF => exact (fun _ _ => trivial)); (case aO => exact built_nil k24 24 w); (case aS => exact (below_size (by repeat (first | (with_reducible first | exact HB.out | apply below_alloc | apply pw_below_drewN | apply below_drew1) | exact HB.out)))); (case aL => have := LMc2.out; omega); intro v104 w3 ho hb hg hat; rw [← Ny103.out] at ho; have n0_ := Aside0.mk (hb); have n1_ := Aside0.mk (ho); clear HB; have HB := n0_; have HO105 := n1_; clear n0_ n1_; clear ho hb hg hat))
      go_ret
      exact ⟨_, by first | rfl | (simp [errW_none, errW_some] <;> rfl) | (simp [*, errW_none, errW_some] <;> rfl), by (with_reducible repeat (first | apply Kd.R_alloc | apply Kd.R_drewN | apply Kd.R_drew)); exact HO105.out, by repeat (first | (with_reducible first | exact HB.out | apply below_alloc | apply pw_below_drewN | apply below_drew1) | exact HB.out)⟩
  · rw [if_neg c2] at H
    exact absurd H (by simp)
end Go.Proofs.Ytghommaokdhjmaa.P
namespace Go.Proofs.Ytghommaokdhjmaa.P
open Go.RowKit Go.Proofs.YtghommaokdhjmaaW.PrintWords Go.Proofs.YtghommaokdhjmaaW.PrintLast Go.Proofs.Ytghommaokdhjmaa.Gate
set_option linter.unusedVariables false
set_option linter.unusedSimpArgs false

/-! ### fact_Twin: function 113 -/
def fact_Twin.f (a0_0 : ByteArray) (l0_1 : List (S24)) : Option (ByteArray × (List (S24))) := (api_Value_122.f l0_1).bind fun t393 => (some (a0_0, t393))
set_option maxHeartbeats 8000000 in
set_option maxRecDepth 100000 in
theorem fact_Twin.calls (a0_0 : ByteArray) (A0_1 : Option Addr) (c0_1 : Nat) (l0_1 : List (S24)) (r1 : ByteArray) (r2 : List (S24)) (w : World) (hr0_1 : Kd.C k24 w A0_1 l0_1.length l0_1) (hc0_1 : l0_1.length ≤ c0_1) (h : fact_Twin.f a0_0 l0_1 = some (r1, r2)) :
  Calls Try.prog 113 #[.agg #[.string a0_0, .slice A0_1 l0_1.length c0_1]] w fun e w' => ∃ v1_ : Value, e = .returned (.agg #[.string r1, v1_]) ∧ Kd.R k24 24 w' w.heap.size (fun _ => True) v1_ r2 ∧ Below w.heap.size w w' := by
 have hu53 := Try.underlying53
 have HR0_1 := Aside0.mk hr0_1
 have HC0_1 := Aside0.mk hc0_1
 clear hr0_1 hc0_1
 have HB := Aside0.mk (Below.refl w.heap.size w)
 have H : ((api_Value_122.f l0_1).bind fun t393 => (some (a0_0, t393))) = some (r1, r2) := h
 clear h
 replace H := Option.bind_eq_some_iff.mp H
 obtain ⟨t393, A20, H⟩ := H
 replace H : (some (a0_0, t393)) = some (r1, r2) := H
 have A2 := Aside0.mk A20
 clear A20
 simp only [Option.some.injEq, Prod.mk.injEq] at H
 obtain ⟨rfl, rfl⟩ := H
 go_enter Try.func113, Try.ntmps113
 try go_wp2_with (first | ((with_reducible refine gate_dst (N := 1) rfl ?_); refine bE (N := 1) (cs := #[.string a0_0, .slice A0_1 l0_1.length c0_1]) (t := 53) ?_; intro gb391 hg w3 hbox hb; have n0_ := Aside0.mk (below_step bB0 hb); have n1_ := Aside0.mk (hbox); have n2_ := Aside0.mk ((by rw [hg]; exact (below_size bB0) : w.heap.size ≤ gb391)); have n3_ := Aside0.mk ((by rw [hg]; exact (below_size bB0) : w.heap.size ≤ gb391)); clear HB; have HB := n0_; have BK391 := n1_; have GW391 := n2_; have GE391 := n3_; clear n0_ n1_ n2_ n3_; clear hb hbox hg) | ((with_reducible refine gate_dst (N := 2) rfl ?_); refine bE (N := 2) (cs := #[.string (⟨#[]⟩ : ByteArray), .slice none 0 0]) (t := 53) ?_; intro gb392 hg w4 hbox hb; have n0_ := Aside0.mk (blk_below (g := gb391) (o := .cells #[.string a0_0, .slice A0_1 l0_1.length c0_1] 53 (0, 0)) (by refine bk ?_; exact BK391.out) hb); have n1_ := Aside0.mk (below_step (bB1 GE391.out) hb); have n2_ := Aside0.mk (hbox); have n3_ := Aside0.mk ((by rw [hg]; exact (below_size (bB1 GE391.out)) : w.heap.size ≤ gb392)); have n4_ := Aside0.mk ((by rw [hg]; exact (below_size (bB1 GE391.out)) : w.heap.size ≤ gb392)); have n5_ := Aside0.mk ((by rw [hg]; exact Nat.ne_of_lt (blk_lt (g := gb391) (o := .cells #[.string a0_0, .slice A0_1 l0_1.length c0_1] 53 (0, 0)) (by refine bk ?_; exact BK391.out)) : gb391 ≠ gb392)); have n6_ := Aside0.mk ((by rw [hg]; exact Nat.ne_of_gt (blk_lt (g := gb391) (o := .cells #[.string a0_0, .slice A0_1 l0_1.length c0_1] 53 (0, 0)) (by refine bk ?_; exact BK391.out)) : gb392 ≠ gb391)); clear BK391; clear HB; have BK391 := n0_; have HB := n1_; have BK392 := n2_; have GW392 := n3_; have GE392 := n4_; have NB391_392 := n5_; have NB392_391 := n6_; clear n0_ n1_ n2_ n3_ n4_ n5_ n6_; clear hb hbox hg))
 have n0_ := Aside0.mk (blk_drew BK391.out)
 have n1_ := Aside0.mk (blk_drew BK392.out)
 have n2_ := Aside0.mk (below_drew1 HB.out)
 clear BK391
 clear BK392
 clear HB
 have BK391 := n0_
 have BK392 := n1_
 have HB := n2_
 clear n0_ n1_ n2_
 refine start_ (n := 7) (S := fun w' => w'.cell? ⟨gb391, 0, none⟩ = some (.string a0_0) ∧ w'.cell? ⟨gb391, 1, none⟩ = some (.slice A0_1 l0_1.length c0_1)) (ds := []) #[false, false, false, false, false, false, false] (by kernel_rfl) rfl rfl ⟨(blk_cell BK391.out 0).trans rfl, (blk_cell BK391.out 1).trans rfl⟩ (fun hHeld => ?_)
 generalize w4.drew = w5 at BK391 BK392 HB hHeld ⊢
 refine pure_ (i := 0) (N := some 3) (v := ?_) (a' := ?_) (bb 7 1) rfl rfl (by kernel_rfl) (fun _ _ _ h => h) (Or.inl ⟨by rfl, ?_⟩) ?_ ?_
 rotate_left
 ·intro w'
  go_simp
  with_reducible rfl
 rotate_left
 ·simp only [Act.put, List.setIfInBounds_toArray, List.set_cons_zero, List.set_cons_succ, i64_w, i32_w]
  rfl
 refine pure_ (i := 2) (N := some 5) (v := ?_) (a' := ?_) (bb 7 5) rfl rfl (by kernel_rfl) (fun _ _ _ h => h) (Or.inl ⟨by rfl, ?_⟩) ?_ ?_
 rotate_left
 ·intro w'
  go_simp
  with_reducible rfl
 rotate_left
 ·simp only [Act.put, List.setIfInBounds_toArray, List.set_cons_zero, List.set_cons_succ, i64_w, i32_w]
  rfl
 refine take_ (i := 1) (N := some 4) (v := ?_) (a' := ?_) (bb 7 7) rfl rfl (by kernel_rfl) (fun _ _ _ h => h) (Or.inl ⟨by rfl, ?_⟩) hHeld ?_ ?_
 rotate_left
 ·rintro w' ⟨s0, s1⟩
  go_simp
  with_reducible rfl
 rotate_left
 ·simp only [Act.put, List.setIfInBounds_toArray, List.set_cons_zero, List.set_cons_succ, i64_w, i32_w]
  rfl
 refine take_ (i := 3) (N := some 6) (v := ?_) (a' := ?_) (bb 7 15) rfl rfl (by kernel_rfl) (fun _ _ _ h => h) (Or.inl ⟨by rfl, ?_⟩) hHeld ?_ ?_
 rotate_left
 ·rintro w' ⟨s0, s1⟩
  go_simp
  with_reducible rfl
 rotate_left
 ·simp only [Act.put, List.setIfInBounds_toArray, List.set_cons_zero, List.set_cons_succ, i64_w, i32_w]
  rfl
 refine one_ (i := 4) (N := some 7) (bb 7 31) rfl rfl (by kernel_rfl) (by decide) (fun K hK => ?_)
 refine goes_ Try.func122 (by kernel_rfl) rfl #[.slice A0_1 l0_1.length c0_1] (by rfl) rfl rfl aG ?_
 with_reducible refine (api_Value_122.calls _ _ l0_1 t393 _ ?side1 ?side2 A2.out).mono ?_
 (case side1 => exact sC (Kd.C_below HR0_1.out HB.out))
 (case side2 => exact HC0_1.out)
 rintro e w6 ⟨v394, rfl, ho0, hb⟩
 refine ⟨_, rfl, ?_⟩
 have n0_ := Aside0.mk (Kd.R_lower ho0 (below_size (bB2 GE391.out GE392.out)))
 have n1_ := Aside0.mk (blk_below (g := gb391) (o := .cells #[.string a0_0, .slice A0_1 l0_1.length c0_1] 53 (0, 0)) (by refine bk ?_; exact BK391.out) hb)
 have n2_ := Aside0.mk (blk_below (g := gb392) (o := .cells #[.string (⟨#[]⟩ : ByteArray), .slice none 0 0] 53 (0, 0)) (by refine bk ?_; exact BK392.out) hb)
 have n3_ := Aside0.mk (below_step (bB2 GE391.out GE392.out) hb)
 clear BK391
 clear BK392
 clear HB
 have HO395 := n0_
 have BK391 := n1_
 have BK392 := n2_
 have HB := n3_
 clear n0_ n1_ n2_ n3_
 (try clear hb)
 (try clear hb2)
 (try clear hk)
 (try clear hi)
 (try clear ho0)
 obtain ⟨Ao7, co7, eo7⟩ := Kd.R_slice HO395.out
 (first | subst eo7 | (injection eo7 with f1_ f2_ f3_; have f4_ := f1_.symm; have f5_ := f3_.symm; clear f1_ f2_ f3_; subst f4_; subst f5_))
 refine hK.out _ _ ⟨(blk_cell BK391.out 0).trans rfl, (blk_cell BK391.out 1).trans rfl⟩ (fun hHeld => ?_)
 clear hK K
 refine norm_ (a' := ?_) ?_ ?_
 rotate_left
 ·show Act.put _ (some 7) _ = _
  simp only [Act.put, List.setIfInBounds_toArray, List.set_cons_zero, List.set_cons_succ, i64_w, i32_w]
  rfl
 refine pure_ (i := 5) (N := some 8) (v := ?_) (a' := ?_) (bb 7 63) rfl rfl (by kernel_rfl) (fun _ _ _ h => h) (Or.inl ⟨by rfl, ?_⟩) ?_ ?_
 rotate_left
 ·intro w'
  go_simp
  with_reducible rfl
 rotate_left
 ·simp only [Act.put, List.setIfInBounds_toArray, List.set_cons_zero, List.set_cons_succ, i64_w, i32_w]
  rfl
 refine one_ (i := 6) (N := none) (bb 7 127) rfl rfl (by kernel_rfl) (by decide) (fun K hK => ?_)
 have hs8 : w6.cell? ⟨gb392, 0, none⟩ = some (.string (⟨#[]⟩ : ByteArray)) := (blk_cell BK392.out 0).trans rfl
 have hfs8 := blk_frozen BK392.out 0
 have hns8_0 := NB391_392.out
 have hms8_0 := NB392_391.out
 have hs9 : w6.cell? ⟨gb392, 1, none⟩ = some (.slice none 0 0) := (blk_cell BK392.out 1).trans rfl
 have hfs9 := blk_frozen BK392.out 1
 have hns9_0 := NB391_392.out
 have hms9_0 := NB392_391.out
 refine skip_ (w1 := ?_) (by rfl) rfl ?_ ?_
 rotate_left
 ·go_simp
  rfl
 refine hK.out _ _ ⟨((cell_far (p := ⟨gb392, _, none⟩) NB391_392.out _).trans (((cell_far (p := ⟨gb392, _, none⟩) NB391_392.out _).trans (hHeld.1)))), ((cell_far (p := ⟨gb392, _, none⟩) NB391_392.out _).trans (((cell_far (p := ⟨gb392, _, none⟩) NB391_392.out _).trans (hHeld.2))))⟩ (fun hHeld => ?_)
 clear hK K
 refine done_ (by kernel_rfl) ?_
 try go_wp2
 refine bodyPost_ret (results_cell_row rfl _ _ gb392 53 #[.string a0_0, .slice Ao7 t393.length co7] (0, 0) _ rfl (by refine bk ?_; refine blk_put (cs := #[.string a0_0, .slice none 0 0]) ?_ 1 _ rfl; refine bk ?_; refine blk_put (cs := #[.string (⟨#[]⟩ : ByteArray), .slice none 0 0]) ?_ 0 _ rfl; refine bk ?_; exact BK392.out) Try.underlying53 rfl (by kernel_rfl)) rfl ?_
 exact ⟨_, eW, by (with_reducible repeat (first | apply Kd.R_alloc | apply Kd.R_drewN | apply Kd.R_drew)); exact Kd.R_mono (Kd.R_far (p := ⟨gb392, 1, none⟩) (Kd.R_far (p := ⟨gb392, 0, none⟩) (Kd.R_types HO395.out BK392.out (by decide)) (fun _ hk => hk.2) (.string a0_0)) (fun _ hk => hk.2) (.slice Ao7 t393.length co7)) (fun _ hk => trivial), (bB2 GE391.out GE392.out)⟩

end Go.Proofs.Ytghommaokdhjmaa.P
namespace Go.Proofs.Ytghommaokdhjmaa.P
open Go.RowKit Go.Proofs.YtghommaokdhjmaaW.PrintWords Go.Proofs.YtghommaokdhjmaaW.PrintLast Go.Proofs.Ytghommaokdhjmaa.Gate
set_option linter.unusedVariables false
set_option linter.unusedSimpArgs false

/-! ### fact_Twins: function 94 -/
def fact_Twins.l0 : Nat → List (S53) → List (S53) → Int → Int → Option ((List (S53)))
 | 0, _, _, _, _ => none
 | k + 1, x3, x6, x7, x8 => if x8 < x7 then (if 0 ≤ x8 then (if x8 < (x6.length : Int) then ((fact_Twin.f ((rd_T53 x6 x8).f0) ((rd_T53 x6 x8).f1)).bind fun bt398 => (if x3.length < 3518437208883 then (fact_Twins.l0 k (x3 ++ [(⟨bt398.1, bt398.2⟩ : S53)]) x6 x7 (wrap64 (x8 + 1))) else (none))) else (none)) else (none)) else (some x3)
def fact_Twins.f (k : Nat) (l0 : List (S53)) : Option ((List (S53))) := fact_Twins.l0 k ([] : List (S53)) l0 (l0.length : Int) 0
theorem fact_Twins.mono_l : ∀ k, (∀ y0 y1 y2 y3, LeO (fact_Twins.l0 k y0 y1 y2 y3) (fact_Twins.l0 (k + 1) y0 y1 y2 y3))
 | 0 => fun _ _ _ _ r h => by simp [fact_Twins.l0] at h
 | k + 1 => by
  have ih0 := fact_Twins.mono_l k
  ·intro y0 y1 y2 y3
   unfold fact_Twins.l0
   repeat' first
   | (with_reducible exact ih0 _ _ _ _)
   | (with_reducible exact LeO.refl _)
   | (with_reducible exact LeO.none _)
   | (with_reducible refine LeO.ite ?_ ?_)
   | (with_reducible refine LeO.bind ?_ (fun _ => ?_))
theorem fact_Twins.mono : ∀ a0 k, LeO (fact_Twins.f k a0) (fact_Twins.f (k + 1) a0) := by
 intro a0 k
 have ih0 := fact_Twins.mono_l k
 unfold fact_Twins.f
 repeat' first
   | (with_reducible exact ih0 _ _ _ _)
   | (with_reducible exact LeO.refl _)
   | (with_reducible exact LeO.none _)
   | (with_reducible refine LeO.ite ?_ ?_)
   | (with_reducible refine LeO.bind ?_ (fun _ => ?_))
set_option maxHeartbeats 8000000 in
set_option maxRecDepth 100000 in
theorem fact_Twins.calls (k : Nat) (A0 : Option Addr) (c0 : Nat) (l0 : List (S53)) (r : List (S53)) (w : World) (hr0 : Kd.C k53 w A0 l0.length l0) (hc0 : l0.length ≤ c0) (h : fact_Twins.f k l0 = some r) :
  Calls Try.prog 94 #[.slice A0 l0.length c0] w fun e w' => ∃ v0_ : Value, e = .returned (v0_) ∧ Kd.S k53 53 w' w.heap.size (fun _ => True) v0_ r ∧ Below w.heap.size w w' := by
 have hu53 := Try.underlying53
 have HR0 := Aside0.mk hr0
 have HC0 := Aside0.mk hc0
 clear hr0 hc0
 have HB := Aside0.mk (Below.refl w.heap.size w)
 have H : (fact_Twins.l0 k ([] : List (S53)) l0 (l0.length : Int) 0) = some r := h
 clear h
 have H' := Aside0.mk H
 clear H
 go_enter Try.func94, Try.ntmps94
 go_wp2
 go_loopg [3, 8] k (fun kq v3 v8 w' => ∃ (x3_1 : List (S53)) (x8_1 : Int), v8 = .int .i64 x8_1 ∧ Aside0 (fact_Twins.l0 kq x3_1 l0 (l0.length : Int) x8_1 = some r) ∧ Aside0 (kq ≤ k) ∧ Aside0 (Kd.S k53 53 w' w.heap.size (fun _ => True) v3 x3_1) ∧ Aside0 (Below w.heap.size w w'))
 case atStart => exact ⟨(([] : List (S53))), (0), (by first | rfl | (simp; done) | (simp [*]; done)), H', ⟨Nat.le_refl _⟩, ⟨by first | exact Kd.S_nil _ _ _ _ _ | exact Kd.N_nil _ _ _ _ _ | exact Kd.V_nil _ _ _ _ _ | exact Kd.Q_nil _ _ _ _ _ | exact Kd.R_nil _ _ _ _ _⟩, ⟨bB0⟩⟩
 case round =>
  clear H'
  obtain ⟨x3_1, x8_1, rfl, HA, HK1, HO_3, HB⟩ := hrel
  cases gk with
  | zero => exact absurd HA.out (by simp [fact_Twins.l0])
  | succ k1 =>
   have H := HA.out
   clear HA
   simp only [fact_Twins.l0] at H
   by_cases c2 : x8_1 < (l0.length : Int)
   ·rw [if_pos c2] at H
    have c2b0 : decide (x8_1 < (l0.length : Int)) = true := decide_eq_true c2
    clear c2
    by_cases c3 : 0 ≤ x8_1
    ·rw [if_pos c3] at H
     have c3b0 : decide (0 ≤ x8_1) = true := decide_eq_true c3
     clear c3
     by_cases c4 : x8_1 < (l0.length : Int)
     ·rw [if_pos c4] at H
      have c4b0 : decide (x8_1 < (l0.length : Int)) = true := decide_eq_true c4
      clear c4
      replace H := Option.bind_eq_some_iff.mp H
      obtain ⟨⟨t398, t399⟩, A50, H⟩ := H
      replace H : (if x3_1.length < 3518437208883 then (fact_Twins.l0 k1 (x3_1 ++ [(⟨t398, t399⟩ : S53)]) l0 (l0.length : Int) (wrap64 (x8_1 + 1))) else (none)) = some r := H
      have A5 := Aside0.mk A50
      clear A50
      by_cases c6 : x3_1.length < 3518437208883
      ·rw [if_pos c6] at H
       have LMc6 := Aside0.mk c6
       clear c6
       obtain ⟨y402, hy402⟩ : ∃ y_ : List (S53), y_ = (x3_1 ++ [(⟨t398, t399⟩ : S53)]) := ⟨_, rfl⟩
       replace H : (fact_Twins.l0 k1 y402 l0 (l0.length : Int) (wrap64 (x8_1 + 1))) = some r := by first | (rw [hy402]; with_reducible exact H) | (have H2_ := (Option.bind_some _ _).symm.trans H; rw [hy402]; with_reducible exact H2_) | (have H2_ := (Option.bind_some _ _).symm.trans H; with_reducible exact H2_) | with_reducible exact H | (rw [hy402]; exact H) | exact H
       have Ny402 := Aside0.mk hy402
       clear hy402
       have H' := Aside0.mk H
       clear H
       have p396 : 0 ≤ (x8_1 : Int) := of_decide_eq_true (by first | (with_reducible assumption) | assumption)
       have q396 : x8_1 < (l0.length : Int) := of_decide_eq_true (by first | (with_reducible assumption) | assumption)
       obtain ⟨ad396, A396_1, c396_1, e396, hx396_0, hx396_1, hl396_1, hi396_1⟩ := at_T53 HR0.out x8_1 p396 q396
       cases e396
       have HZ396_1 := Aside0.mk hx396_1
       replace hx396_0 := (HB.out.cell (World.block_lt_of_cell? w _ hx396_0)).trans hx396_0
       replace hx396_1 := (HB.out.cell (World.block_lt_of_cell? w _ hx396_1)).trans hx396_1
       have HR396_1 := Aside0.mk hi396_1
       have HC396_1 := Aside0.mk hl396_1
       clear hi396_1 hl396_1
       replace p396 := eq_true p396
       replace q396 := eq_true q396
       go_wp2_with (first | ((with_reducible refine gate_dst (N := 5) rfl ?_); refine bE (N := 5) (cs := #[.string (⟨#[]⟩ : ByteArray), .slice none 0 0]) (t := 53) ?_; intro gb397 hg w7 hbox hb; have n0_ := Aside0.mk (Kd.S_below (Kd.S_elderB (by (with_reducible repeat (first | apply Kd.S_alloc | apply Kd.S_drewN | apply Kd.S_drew)); exact HO_3.out) gb397 (Nat.le_of_eq hg.symm)) hb); have n1_ := Aside0.mk (below_step bB0 hb); have n2_ := Aside0.mk (hbox); have n3_ := Aside0.mk ((by rw [hg]; exact (below_size bB0) : w.heap.size ≤ gb397)); have n4_ := Aside0.mk ((by rw [hg]; exact (below_size bB0) : w.heap.size ≤ gb397)); clear HO_3; clear HB; have HO_3 := n0_; have HB := n1_; have BK397 := n2_; have GW397 := n3_; have GE397 := n4_; clear n0_ n1_ n2_ n3_ n4_; clear hb hbox hg; have hcz8_0 : w7.cell? ⟨gb397, 0, none⟩ = some (.string (⟨#[]⟩ : ByteArray)) := (blk_cell BK397.out 0).trans rfl; have hcz8_1 : w7.cell? ⟨gb397, 1, none⟩ = some (.slice none 0 0) := (blk_cell BK397.out 1).trans rfl; have hfz8_0 := blk_frozen BK397.out 0; have hfz8_1 := blk_frozen BK397.out 1) | ((with_reducible refine gate_callee (f := 113) rfl ?_); refine goesL_ (some 14) rfl rfl Try.func113 (by kernel_rfl) rfl #[.agg #[.string ((rd_T53 l0 x8_1).f0), .slice A396_1 ((rd_T53 l0 x8_1).f1).length c396_1]] rfl aG ?_; (with_reducible refine (fact_Twin.calls ((rd_T53 l0 x8_1).f0) _ _ ((rd_T53 l0 x8_1).f1) t398 t399 _ ?side1 ?side2 A5.out).mono ?_); (case side1 => exact Kd.C_below HR396_1.out (bB1 GE397.out)); (case side2 => exact HC396_1.out); rintro e w9 ⟨v400, rfl, ho0, hb⟩; refine ⟨_, rfl, ?_⟩; have n0_ := Aside0.mk (Kd.S_elder' (by (with_reducible repeat (first | apply Kd.S_alloc | apply Kd.S_drewN | apply Kd.S_drew)); exact (Kd.S_mono (Kd.S_far (p := ⟨gb397, 1, none⟩) (Kd.S_far (p := ⟨gb397, 0, none⟩) (Kd.S_mono HO_3.out (fun k_ hk => (⟨hk, hk.2⟩ : _ ∧ k_ ≠ gb397))) (fun _ hk => hk.2) (.string ((rd_T53 l0 x8_1).f0))) (fun _ hk => hk.2) (.slice A396_1 ((rd_T53 l0 x8_1).f1).length c396_1)) (fun _ h_ => h_.1))) (Kd.R_base ho0) hb); have n1_ := Aside0.mk (Kd.R_lower ho0 (below_size (bB1 GE397.out))); have n2_ := Aside0.mk (blk_below (g := gb397) (o := .cells #[.string ((rd_T53 l0 x8_1).f0), .slice A396_1 ((rd_T53 l0 x8_1).f1).length c396_1] 53 (0, 0)) (by refine bk ?_; refine blk_put (cs := #[.string ((rd_T53 l0 x8_1).f0), .slice none 0 0]) ?_ 1 _ rfl; refine bk ?_; refine blk_put (cs := #[.string (⟨#[]⟩ : ByteArray), .slice none 0 0]) ?_ 0 _ rfl; refine bk ?_; exact BK397.out) hb); have n3_ := Aside0.mk (below_step (bB1 GE397.out) hb); clear HO_3; clear BK397; clear HB; have HO_3 := n0_; have HO401 := n1_; have BK397 := n2_; have HB := n3_; clear n0_ n1_ n2_ n3_; (try clear hb); (try clear hb2); (try clear hk); (try clear hi); (try clear ho0); obtain ⟨Ao11, co11, eo11⟩ := Kd.R_slice HO401.out; subst eo11) | ((with_reducible refine gate_builtin (b := .append) (xs := #[.tmp 12, .tmp 15]) rfl ?_); at_builtin; refine Kd.S_append k53 (w0 := w) w.heap.size rfl (.tmp 12) (.tmp 15) 46 53 (.agg #[(.string ⟨#[]⟩), (.slice none 0 0)]) 40 rfl Try.underlying46 info53 rfl (by decide) (by omega) u3 x3_1 (⟨t398, t399⟩ : S53) [.string t398, .slice Ao11 t399.length co11] (fun k_ => k_ ≠ gb397) (fun k_ => some k_ = (.slice Ao11 t399.length co11 : Value).ownBlock) rfl rfl ?aP (fun k_ hk_ => ((Kd.R_mono (ok' := fun k_ => ((fun k_ => k_ ≠ gb397)) k_ ∧ some k_ ≠ (u3 : Value).ownBlock) (Kd.R_types (Kd.R_apart' (HO401.out) (Kd.S_typed HO_3.out) (by decide)) BK397.out (by decide)) (fun k_ hk => ⟨hk.2, hk.1.2⟩))).1 k_ hk_.symm) ?aF ?aO ?aB ?aS ?aL ?_; (case aP => exact k53_mkM _ _ _ (⟨t398, t399⟩ : S53) (Kd.R_mono (Kd.R_tight rfl (Kd.R_mono (ok' := fun k_ => ((fun k_ => k_ ≠ gb397)) k_ ∧ some k_ ≠ (u3 : Value).ownBlock) (Kd.R_types (Kd.R_apart' (HO401.out) (Kd.S_typed HO_3.out) (by decide)) BK397.out (by decide)) (fun k_ hk => ⟨hk.2, hk.1.2⟩))) (fun _ h_ => h_))); (case aB => exact (bB1 GE397.out)); (case aF => exact (fun k_ hk => Kd.freshB (g := gb397) (o := .cells #[.string ((rd_T53 l0 x8_1).f0), .slice A396_1 ((rd_T53 l0 x8_1).f1).length c396_1] 53 (0, 0)) (by refine bk ?_; exact BK397.out) k_ hk)); (case aO => exact (by (with_reducible repeat (first | apply Kd.S_alloc | apply Kd.S_drewN | apply Kd.S_drew)); exact Kd.S_mono HO_3.out (fun k_ hk => ⟨hk.1.2, fun e_ => hk.2 e_⟩))); (case aS => exact (below_size (bB1 GE397.out))); (case aL => have := LMc6.out; omega); intro v403 w10 ho hb hg hat; rw [← Ny402.out] at ho; have n0_ := Aside0.mk (blk_grown (g := gb397) (o := .cells #[.string ((rd_T53 l0 x8_1).f0), .slice A396_1 ((rd_T53 l0 x8_1).f1).length c396_1] 53 (0, 0)) (by refine bk ?_; exact BK397.out) hg (Kd.S_away HO_3.out (fun _ hk => hk.1.2))); have n1_ := Aside0.mk (hb); have n2_ := Aside0.mk (ho); clear BK397; clear HB; clear HO_3; clear HO401; have BK397 := n0_; have HB := n1_; have HO404 := n2_; clear n0_ n1_ n2_; clear ho hb hg hat))
       go_roundg k1
       case measure => have := HK1.out; omega
       case rel => exact ⟨(y402), (wrap64 (x8_1 + 1)), (by first | rfl | (simp; done) | (simp [*]; done)), H', ⟨by have := HK1.out; omega⟩, ⟨by (with_reducible repeat (first | apply Kd.S_alloc | apply Kd.S_drewN | apply Kd.S_drew)); exact Kd.S_mono HO404.out (fun _ hk => trivial)⟩, ⟨(bB1 GE397.out)⟩⟩
      ·rw [if_neg c6] at H
       exact absurd H (by simp)
     ·rw [if_neg c4] at H
      exact absurd H (by simp)
    ·rw [if_neg c3] at H
     exact absurd H (by simp)
   ·rw [if_neg c2] at H
    have c2b0 : decide (x8_1 < (l0.length : Int)) = false := decide_eq_false c2
    clear c2
    obtain rfl := Option.some.inj H
    go_wp2
    go_ret
    exact ⟨_, eW, by (with_reducible repeat (first | apply Kd.S_alloc | apply Kd.S_drewN | apply Kd.S_drew)); exact HO_3.out, bB0⟩

end Go.Proofs.Ytghommaokdhjmaa.P
/- sets.merged: its walk, and what it answers as a plain function: the lists' members, each once, rising; a million facts at most. -/
set_option linter.unusedVariables false
set_option linter.unusedSimpArgs false
namespace Go.Proofs.Ytghommaokdhjmaa.P
open Go.Shelf Go.RowKit Go.Lib Go.Sort Go.Proofs.SymP Go.Proofs.YtghommaokdhjmaaW.PrintWords Go.Proofs.Ytghommaokdhjmaa.Str Go.Proofs.Ytghommaokdhjmaa.CmpF Go.Proofs.Ytghommaokdhjmaa.Fct
/-- No row of values longer than a million. -/
def fitF (l : List S53) : Bool := l.all fun x => decide (x.f1.length ≤ 1000000)
theorem fitF_mem {l : List S53} : fitF l = true ↔ ∀ x ∈ l, x.f1.length ≤ 1000000 := by
  unfold fitF
  rw [List.all_eq_true]
  simp only [decide_eq_true_eq]
theorem rd53_get {l : List S53} {i : Nat} (hi : i < l.length) : rd_T53 l i = l[i] := by
  unfold rd_T53
  rw [Int.toNat_natCast, List.getD_eq_getElem?_getD, List.getElem?_eq_getElem hi]; rfl
theorem twins_loop (l : List S53) (hf : ∀ x ∈ l, x.f1.length ≤ 1000000) (hl : l.length ≤ 1000000) : ∀ (m i : Nat), i + m = l.length → Ev (fun k => fact_Twins.l0 k (l.take i) l (l.length : Int) i) l := by
  intro m
  induction m with
  | zero =>
    intro i h
    refine Ev.step (fun k => by rw [fact_Twins.l0, if_neg (by omega)]) ?_
    rw [List.take_of_length_le (by omega)]
    exact Ev.now _
  | succ m ih =>
    intro i h
    have hi : i < l.length := by omega
    have hx := hf l[i] (List.getElem_mem hi)
    have ht : fact_Twin.f (rd_T53 l i).f0 (rd_T53 l i).f1 = some (l[i].f0, l[i].f1) := by
      rw [rd53_get hi]
      unfold fact_Twin.f api_Value_122.f
      rw [if_pos (by simp only [List.length_nil]; omega)]
      simp
    refine Ev.step (f := fun k => fact_Twins.l0 k (l.take (i + 1)) l (l.length : Int) ((i + 1 : Nat) : Int)) (fun k => by
      rw [fact_Twins.l0, if_pos (by omega), if_pos (by omega), if_pos (by omega), ht]
      simp only [Option.bind_some]
      rw [if_pos (by rw [List.length_take]; omega), show l.take i ++ [(⟨l[i].f0, l[i].f1⟩ : S53)] = l.take (i + 1) by rw [List.take_succ_eq_append_getElem hi], show wrap64 ((i : Int) + 1) = ((i + 1 : Nat) : Int) by unfold wrap64; omega]) ?_
    exact ih (i + 1) (by omega)
theorem twins_ev (l : List S53) (hf : ∀ x ∈ l, x.f1.length ≤ 1000000) (hl : l.length ≤ 1000000) : Ev (fun k => fact_Twins.f k l) l := by
  have h := twins_loop l hf hl l.length 0 (by omega)
  simpa only [fact_Twins.f, List.take_zero, Int.natCast_zero] using h
/-- sets.merged's answer. -/
def sets_merged.f (l0 : List (List S53)) : Option (List S53) := if l0.flatten.length ≤ 1000000 ∧ fitF l0.flatten = true then some (setO cf53 l0.flatten) else none
theorem rdL7_get {l : List (List S53)} {i : Nat} (hi : i < l.length) : rd_L7 l i = l[i] := by
  unfold rd_L7
  rw [Int.toNat_natCast, List.getD_eq_getElem?_getD, List.getElem?_eq_getElem hi]; rfl
set_option maxHeartbeats 4000000 in
set_option maxRecDepth 1000000 in
theorem sets_merged.calls (A0 : Option Addr) (c0 : Nat) (l0 : List (List S53)) (r : List S53) (w : World) (hr0 : Kd.C (Kd.slice 53 k53) w A0 l0.length l0) (hc0 : l0.length ≤ c0) (h : sets_merged.f l0 = some r) :
    Calls Try.prog 70 #[.slice A0 l0.length c0] w fun e w' => ∃ v0_ : Value, e = .returned (v0_) ∧ Kd.S k53 53 w' w.heap.size (fun _ => True) v0_ r ∧ Go.RowKit.Below w.heap.size w w' := by
  have hfit : l0.flatten.length ≤ 1000000 ∧ fitF l0.flatten = true := by
    unfold sets_merged.f at h
    by_cases hc : l0.flatten.length ≤ 1000000 ∧ fitF l0.flatten = true
    · exact hc
    · rw [if_neg hc] at h; cases h
  obtain rfl : setO cf53 l0.flatten = r := by
    unfold sets_merged.f at h
    rw [if_pos hfit] at h
    exact Option.some.inj h
  clear h
  have HR := Aside0.mk hr0
  have HF : Aside0 (l0.flatten.length ≤ 1000000 ∧ ∀ x ∈ l0.flatten, x.f1.length ≤ 1000000) := Aside0.mk ⟨hfit.1, fitF_mem.1 hfit.2⟩
  have hbig : l0.length ≤ 9223372036854775807 := hr0.2.1
  clear hr0 hfit
  have et : ∀ args w, (callFunc 94 args).run Try.prog w = .ok (.enter 94 args) w := enters_of Try.func94 (by kernel_rfl) rfl
  have es : ∀ args w, (callFunc 95 args).run Try.prog w = .ok (.enter 95 args) w := enters_of Try.func95 (by kernel_rfl) rfl
  have ec : ∀ args w, (callFunc 96 args).run Try.prog w = .ok (.enter 96 args) w := enters_of Try.func96 (by kernel_rfl) rfl
  go_enter Try.func70, Try.ntmps70
  go_wp2
  go_loopg [3, 8] l0.length (fun gg s3 s8 wr => ∃ (i : Nat) (v : Value), s8 = .int .i64 i ∧ v = s3 ∧ i ≤ l0.length ∧ l0.length - i ≤ gg ∧ Aside0 (Kd.S k53 53 wr w.heap.size (fun _ => True) v (l0.take i).flatten) ∧ Aside0 (Go.RowKit.Below w.heap.size w wr))
  case atStart => exact ⟨0, .slice none 0 0, rfl, rfl, Nat.zero_le _, by omega, Aside0.mk (Kd.S_nil _ _ _ _ _), Aside0.mk (Go.RowKit.Below.refl _ _)⟩
  case round =>
    obtain ⟨i, v, rfl, rfl, hi, hg, HO, HB⟩ := hrel
    by_cases hlt : i < l0.length
    · have hltz : (i : Int) < (l0.length : Int) := by omega
      obtain ⟨ad, A1, c1, e1, hx, hl1, hi1⟩ := at_L7 HR.out (i : Int) (by omega) hltz
      rw [Int.toNat_natCast] at hx
      cases e1
      replace hx := (HB.out.cell (World.block_lt_of_cell? w _ hx)).trans hx
      rw [rdL7_get hlt] at hx hl1 hi1
      have hmem : ∀ x ∈ l0[i], x ∈ l0.flatten := fun x hx => List.mem_flatten.2 ⟨_, List.getElem_mem hlt, hx⟩
      have htl : (l0.take (i + 1)).flatten = (l0.take i).flatten ++ l0[i] := by rw [List.take_succ_eq_append_getElem hlt, List.flatten_append]; simp
      have hsum : (l0.take i).flatten.length + l0[i].length ≤ 1000000 := by
        have h1 : ((l0.take (i + 1)).flatten ++ (l0.drop (i + 1)).flatten).length = l0.flatten.length := by rw [← List.flatten_append, List.take_append_drop]
        rw [htl] at h1
        have := HF.out.1
        simp only [List.length_append] at h1
        omega
      have hT : Aside0 (∀ W, Go.RowKit.Below w.heap.size w W → Calls Try.prog 94 #[.slice A1 l0[i].length c1] W fun e w' => ∃ v0_ : Value, e = .returned (v0_) ∧ Kd.S k53 53 w' W.heap.size (fun _ => True) v0_ l0[i] ∧ Go.RowKit.Below W.heap.size W w') := ⟨fun W hW => by
        obtain ⟨k, hk⟩ := (twins_ev l0[i] (fun x hx => HF.out.2 x (hmem x hx)) (by omega)).rounds
        exact fact_Twins.calls k A1 c1 l0[i] _ W (Kd.C_below hi1 hW) hl1 hk⟩
      have HS := Aside0.mk hsum
      have HT := Aside0.mk htl
      clear hsum htl hmem hl1 hi1
      generalize l0[i] = li at hx hT HS HT
      generalize hn : li.length = n at hx
      have HN := Aside0.mk hn
      clear hn
      have hstep : Aside0 (∀ (w1 : World) (v2 : Value), Kd.S k53 53 w1 wr.heap.size (fun _ => True) v2 li → Go.RowKit.Below wr.heap.size wr w1 →
          ∃ u' w2, (∀ ty, (Builtin.append_ #[46, 46] ty #[v, v2]).run Try.prog w1 = .ok u' w2) ∧ Aside0 (Kd.S k53 53 w2 w.heap.size (fun _ => True) u' (l0.take (i + 1)).flatten) ∧ Aside0 (Go.RowKit.Below w.heap.size w w2)) := ⟨fun w1 v2 h1 h2 => by
        have hs := HB.out.size
        have hs2 := h2.size
        obtain ⟨u', w2, hr, hS, hg⟩ := appendS (W := w1) w.heap.size wr.heap.size v v2 (l0.take i).flatten li (Kd.S_mono (Kd.S_old HO.out h2) (fun k hk => hk.2)) (Kd.S_lower (Kd.S_mono (Kd.S_bound h1) (fun k hk => hk.2.1)) hs) (by omega) HS.out
        rw [← HT.out] at hS
        exact ⟨u', w2, hr, Aside0.mk hS, Aside0.mk ((HB.out.trans (h2.mono hs)).grown hg (by omega) (fun k hk => Kd.S_base HO.out k hk))⟩⟩
      have hT2 : Aside0 (Calls Try.prog 94 #[.slice A1 n c1] wr fun e w' => ∃ v0_ : Value, e = .returned (v0_) ∧ Kd.S k53 53 w' wr.heap.size (fun _ => True) v0_ li ∧ Go.RowKit.Below wr.heap.size wr w') := ⟨by
        have := hT.out wr HB.out
        rw [HN.out] at this
        exact this⟩
      clear hT HO HB HT HS HN
      go_wp2_with (first | (go_at_fn 94; with_reducible refine hT2.out.mono ?_; rintro e w1 ⟨v2, rfl, h1, h2⟩; obtain ⟨u', w2, happ, HO2, HB2⟩ := hstep.out w1 v2 h1 h2; clear h1 h2) | (at_builtin; refine Lib.wpList_append_run _ rfl _ _ _ _ rfl _ _ rfl rfl _ _ (happ _) ?_))
      go_roundg (l0.length - (i + 1))
      case measure => omega
      case rel => exact ⟨i + 1, u', by go_num, rfl, by omega, by omega, HO2, HB2⟩
    · have hltz : ¬ (i : Int) < (l0.length : Int) := by omega
      have hil : i = l0.length := by omega
      have HO2 : Aside0 (Kd.S k53 53 wr w.heap.size (fun _ => True) v l0.flatten) := ⟨by have := HO.out; rwa [hil, List.take_length] at this⟩
      clear HO hil
      go_wp2_with (first | (go_at_fn 95; with_reducible refine (sortS w.heap.size v l0.flatten HF.out.1 HF.out.2 wr HO2.out HB.out.size).mono ?_; rintro e w5 ⟨rfl, m, hp, hso, ho5, hB5⟩; have HO5 := Aside0.mk ho5; have HP := Aside0.mk hp; have HSo := Aside0.mk hso; have HB5 := Aside0.mk (HB.out.trans hB5); clear ho5 hp hso hB5) | (go_at_fn 96; with_reducible refine (compactS w.heap.size v m (HP.out.length_eq ▸ HF.out.1) (fun x hx => HF.out.2 x (HP.out.mem_iff.1 hx)) HSo.out w5 HO5.out HB5.out.size).mono ?_; rintro e w6 ⟨v', rfl, ho6, hB6⟩; have HO6 := Aside0.mk ho6; have HB6 := Aside0.mk (HB5.out.trans hB6); clear ho6 hB6))
      go_ret
      have he : setO cf53 m = setO cf53 l0.flatten := setO_one ord53 (setO_up ord53 m) (fun x => (setO_mem ord53 x m).trans HP.out.mem_iff)
      rw [← he]
      exact ⟨_, rfl, HO6.out, HB6.out⟩
end Go.Proofs.Ytghommaokdhjmaa.P
