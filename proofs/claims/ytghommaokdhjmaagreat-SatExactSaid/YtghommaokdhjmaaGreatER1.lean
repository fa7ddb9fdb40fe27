/- A part of the proof: walks of the code and plain laws, printed and by hand; no condition. -/
import Derived.Test.YtghommaokdhjmaaGreatEYD1
import Derived.Lib.QuietBelow
import Derived.BigQuiet
set_option linter.unusedVariables false
set_option linter.unusedSimpArgs false
/- A formula whose depth is looked at node by node: right just where the formula is right; no condition. -/
namespace Go.Proofs.YtghommaokdhjmaaGreat.Frm
open Go.RowKit Go.Lib Go.Proofs.YtghommaokdhjmaaGreatW.PrintWords P FactC IRow PSat
def deepN (x : S62) (j : Nat) (fr dp : List Int) : Prop :=
 (arms x.f0 = 0 ∧ fr.getD j 0 = j ∧ dp.getD j 0 = 1) ∨ (arms x.f0 = 1 ∧ 1 ≤ j ∧ fr.getD j 0 = fr.getD (j - 1) 0 ∧ dp.getD j 0 = dp.getD (j - 1) 0 + 1)
  ∨ (arms x.f0 = 2 ∧ 1 ≤ j ∧ x.f3 = (j : Int) - 1 ∧ 1 ≤ fr.getD (j - 1) 0 ∧ x.f2 = fr.getD (j - 1) 0 - 1 ∧ fr.getD j 0 = fr.getD x.f2.toNat 0 ∧ dp.getD j 0 = max (dp.getD x.f2.toNat 0) (dp.getD x.f3.toNat 0) + 1)
theorem step_deep {x : S62} {i : Nat} {fr dp l m : List Int} {a b : Int} (h : stepN x i fr dp = some (a, b)) (hf : okF fr) (hl : fr.length = i) (hd : dp.length = i) : deepN x i (fr ++ [a] ++ l) (dp ++ [b] ++ m) := by
 have hat : (fr ++ [a] ++ l).getD i 0 = a := by rw [getD_lt _ _ _ (by simp; omega), ← hl, getD_at]
 have hat2 : (dp ++ [b] ++ m).getD i 0 = b := by rw [getD_lt _ _ _ (by simp; omega), ← hd, getD_at]
 have hlt : ∀ k, k < i → (fr ++ [a] ++ l).getD k 0 = fr.getD k 0 := fun k hk => by rw [List.append_assoc, getD_lt _ _ _ (by omega)]
 have hlt2 : ∀ k, k < i → (dp ++ [b] ++ m).getD k 0 = dp.getD k 0 := fun k hk => by rw [List.append_assoc, getD_lt _ _ _ (by omega)]
 unfold deepN
 rw [hat, hat2]
 unfold stepN at h
 by_cases h0 : arms x.f0 = 0
 ·rw [if_pos h0] at h
  split at h
  ·cases h
  ·injection h with h; injection h with h1 h2; exact .inl ⟨h0, by omega, by omega⟩
 ·rw [if_neg h0] at h
  by_cases h1 : arms x.f0 = 1
  ·rw [if_pos h1] at h
   split at h
   ·cases h
   ·injection h with h; injection h with h2 h3
    rw [hlt _ (by omega), hlt2 _ (by omega)]
    exact .inr (.inl ⟨h1, by omega, by omega, by omega⟩)
  ·rw [if_neg h1] at h
   by_cases h2 : arms x.f0 = 2
   ·rw [if_pos h2] at h
    split at h
    ·cases h
    ·rename_i hn
     injection h with h; injection h with h3 h4
     have h5 := hf (i - 1) (by omega)
     rw [hlt (i - 1) (by omega), hlt x.f2.toNat (by omega), hlt2 x.f2.toNat (by omega), hlt2 x.f3.toNat (by omega)]
     exact .inr (.inr ⟨h2, by omega, by omega, by omega, by omega, h3.symm, h4.symm⟩)
   ·rw [if_neg h2] at h; cases h
theorem froms_deep : ∀ (l : List S62) (i : Nat) (fr dp fr' dp' : List Int), fromsP l i fr dp = some (fr', dp') → okF fr → fr.length = i → dp.length = i → (∃ z, fr' = fr ++ z) ∧ (∃ z, dp' = dp ++ z) ∧ ∀ j (h : j < l.length), deepN l[j] (i + j) fr' dp' := by
 intro l
 induction l with
 | nil =>
  intro i fr dp fr' dp' h hf hl hd
  simp only [fromsP] at h
  injection h with h; injection h with h1 h2
  exact ⟨⟨[], by simp [h1]⟩, ⟨[], by simp [h2]⟩, fun j hj => by simp at hj⟩
 | cons x l ih =>
  intro i fr dp fr' dp' h hf hl hd
  simp only [fromsP] at h
  rcases hs : stepN x i fr dp with _ | ⟨a, b⟩
  ·rw [hs] at h; cases h
  ·rw [hs] at h
   have ha := step_ok hs hf hl
   obtain ⟨⟨z, h3⟩, ⟨y, h5⟩, h4⟩ := ih (i + 1) (fr ++ [a]) (dp ++ [b]) _ _ h (okF_snoc hf ha.1 (by omega)) (by simp; omega) (by simp; omega)
   refine ⟨⟨[a] ++ z, by rw [h3, List.append_assoc]⟩, ⟨[b] ++ y, by rw [h5, List.append_assoc]⟩, fun j hj => ?_⟩
   rcases j with _ | j
   ·rw [h3, h5]; exact step_deep hs hf hl hd
   ·have := h4 j (by simpa using hj)
    rw [show i + 1 + j = i + (j + 1) by omega] at this
    exact this
theorem deep_in {l : List S62} {fr dp : List Int} (h : fromsP l 0 [] [] = some (fr, dp)) : ∀ q, q < l.length → ∀ j : Nat, fr.getD q 0 ≤ (j : Int) → j ≤ q → dp.getD j 0 ≤ dp.getD q 0 := by
 obtain ⟨hok, hlen, _, _⟩ := froms_ok l 0 [] [] fr dp h okF_nil rfl
 have hd := (froms_deep l 0 [] [] fr dp h okF_nil rfl rfl).2.2
 intro q
 induction q using Nat.strongRecOn with
 | ind q ih =>
  intro hq j h1 h2
  have hx := hd q hq
  rw [Nat.zero_add] at hx
  by_cases hj : j = q
  ·subst hj; exact Int.le_refl _
  rcases hx with ⟨_, h3, _⟩ | ⟨_, h3, h4, h5⟩ | ⟨_, h3, h4, h5, h6, h7, h8⟩
  ·omega
  ·have := ih (q - 1) (by omega) (by omega) j (by omega) (by omega)
   omega
  ·have ho := hok (q - 1) (by omega)
   by_cases hb : fr.getD (q - 1) 0 ≤ (j : Int)
   ·have := ih (q - 1) (by omega) (by omega) j hb (by omega)
    rw [show l[q].f3.toNat = q - 1 by omega] at h8
    omega
   ·have := ih l[q].f2.toNat (by omega) (by omega) j (by omega) (by omega)
    omega
theorem froms_split : ∀ (l m : List S62) (i : Nat) (fr dp : List Int), fromsP (l ++ m) i fr dp = (fromsP l i fr dp).bind fun r => fromsP m (i + l.length) r.1 r.2 := by
 intro l
 induction l with
 | nil => intro m i fr dp; simp [fromsP]
 | cons x l ih =>
  intro m i fr dp
  rw [List.cons_append]
  simp only [fromsP]
  rcases stepN x i fr dp with _ | ⟨a, b⟩
  ·rfl
  ·simp only
   rw [ih, List.length_cons, show i + 1 + l.length = i + (l.length + 1) by omega]
theorem froms_take {l : List S62} {i : Nat} (hi : i < l.length) {fr dp : List Int} (h : fromsP (l.take i) 0 [] [] = some (fr, dp)) : fromsP (l.take (i + 1)) 0 [] [] = (stepN l[i] i fr dp).map fun r => (fr ++ [r.1], dp ++ [r.2]) := by
 rw [List.take_succ_eq_append_getElem hi, froms_split, h]
 show fromsP [l[i]] (0 + (l.take i).length) fr dp = _
 rw [show 0 + (l.take i).length = i by rw [List.length_take]; omega]
 simp only [fromsP]
 rcases stepN l[i] i fr dp with _ | ⟨a, b⟩ <;> rfl
theorem froms_none {l : List S62} {i : Nat} (h : fromsP (l.take i) 0 [] [] = none) : fromsP l 0 [] [] = none := by
 rw [← List.take_append_drop i l, froms_split, h]; rfl
theorem chk_none {l : List S62} (h : fromsP l 0 [] [] = none) : chkN l ≠ 0 := by
 unfold chkN
 rw [h]
 split
 ·decide
 ·show (17 : Int) ≠ 0
  decide
theorem chk_step {l : List S62} {i : Nat} (hi : i < l.length) {fr dp : List Int} (h : fromsP (l.take i) 0 [] [] = some (fr, dp)) (hs : stepN l[i] i fr dp = none) : chkN l ≠ 0 :=
 chk_none (froms_none (i := i + 1) (by rw [froms_take hi h, hs]; rfl))
theorem chk_deep {l : List S62} {i : Nat} (hi : i < l.length) {fr dp : List Int} (h : fromsP (l.take i) 0 [] [] = some (fr, dp)) {a b : Int} (hs : stepN l[i] i fr dp = some (a, b)) (hb : 12 < b) : chkN l ≠ 0 := by
 rcases hq : fromsP l 0 [] [] with _ | ⟨fr', dp'⟩
 ·exact chk_none hq
 ·have h1 := froms_take hi h
  rw [hs] at h1
  have hq2 := hq
  rw [← List.take_append_drop (i + 1) l, froms_split, h1] at hq2
  change fromsP (l.drop (i + 1)) (0 + (l.take (i + 1)).length) (fr ++ [a]) (dp ++ [b]) = some (fr', dp') at hq2
  have h2 := froms_ok _ _ _ _ _ _ h okF_nil rfl
  have h3 := froms_dlen _ _ _ _ _ _ h
  have hl2 : (l.take i).length = i := by rw [List.length_take]; omega
  have hl3 : (l.take (i + 1)).length = i + 1 := by rw [List.length_take]; omega
  have hfl : fr.length = i := by have := h2.2.1; omega
  have hdl : dp.length = i := by simp at h3; omega
  have ha := step_ok hs h2.1 hfl
  obtain ⟨_, ⟨z, hz⟩, _⟩ := froms_deep _ _ _ _ _ _ hq2 (okF_snoc h2.1 ha.1 (by omega)) (by simp; omega) (by simp; omega)
  have hbi : dp'.getD i 0 = b := by rw [hz, getD_lt _ _ _ (by simp; omega), ← hdl, getD_at]
  intro hc
  unfold chkN at hc
  split at hc
  ·cases hc
  ·rw [hq] at hc
   simp only at hc
   split at hc
   ·cases hc
   ·rename_i hn
    have := deep_in hq (l.length - 1) (by omega) i (by omega) (by omega)
    omega
theorem chk_all {l : List S62} (h1 : 1 ≤ l.length) (h40 : l.length ≤ 40) {fr dp : List Int} (h : fromsP l 0 [] [] = some (fr, dp)) (hd : ∀ j, j < l.length → dp.getD j 0 ≤ 12) : decide (chkN l = 0) = decide (fr.getD (l.length - 1) 0 = 0) := by
 have h2 := hd (l.length - 1) (by omega)
 have e : chkN l = if fr.getD (l.length - 1) 0 ≠ 0 ∨ 12 < dp.getD (l.length - 1) 0 then 17 else 0 := by
  unfold chkN
  rw [if_neg (by omega), h]
 by_cases h0 : fr.getD (l.length - 1) 0 = 0
 ·rw [if_neg (by omega)] at e
  rw [decide_eq_true h0, decide_eq_true e]
 ·rw [if_pos (.inl h0)] at e
  rw [decide_eq_false h0, decide_eq_false (by omega)]
theorem step_ways {x : S62} {j : Nat} {fr dp : List Int} {s : Option (Int × Int)} (h : stepN x j fr dp = s) (h0 : ∀ q, q < j → 0 ≤ fr.getD q 0) {b0 b1 b2 eb : Bool} (e0 : decide (matP x.f1.f0 x.f1.f1 = 0) = b0) (e1 : decide (arms x.f0 = 1) = b1) (e2 : decide (arms x.f0 = 2) = b2) (e3 : emptyA x.f1 = eb) :
  ((x.f0 == 1) = true ∧ b0 = false ∧ s = none) ∨ ((x.f0 == 1) = true ∧ b0 = true ∧ (x.f2 != 0) = true ∧ s = none) ∨ ((x.f0 == 1) = true ∧ b0 = true ∧ (x.f2 != 0) = false ∧ (x.f3 != 0) = true ∧ s = none) ∨
  ((x.f0 == 1) = false ∧ b1 = true ∧ eb = false ∧ s = none) ∨ ((x.f0 == 1) = false ∧ b1 = true ∧ eb = true ∧ ((j : Int) == 0) = true ∧ s = none) ∨ ((x.f0 == 1) = false ∧ b1 = true ∧ eb = true ∧ ((j : Int) == 0) = false ∧ (x.f2 != (j : Int) - 1) = true ∧ s = none) ∨ ((x.f0 == 1) = false ∧ b1 = true ∧ eb = true ∧ ((j : Int) == 0) = false ∧ (x.f2 != (j : Int) - 1) = false ∧ (x.f3 != 0) = true ∧ s = none) ∨
  ((x.f0 == 1) = false ∧ b1 = false ∧ b2 = false ∧ s = none) ∨
  ((x.f0 == 1) = true ∧ b0 = true ∧ (x.f2 != 0) = false ∧ (x.f3 != 0) = false ∧ s = some ((j : Int), 1)) ∨
  ((x.f0 == 1) = false ∧ b1 = true ∧ eb = true ∧ ((j : Int) == 0) = false ∧ x.f2 = (j : Int) - 1 ∧ (x.f3 != 0) = false ∧ s = some (fr.getD (j - 1) 0, dp.getD (j - 1) 0 + 1)) ∨
  ((x.f0 == 1) = false ∧ b1 = false ∧ b2 = true ∧ eb = false ∧ s = none) ∨ ((x.f0 == 1) = false ∧ b1 = false ∧ b2 = true ∧ eb = true ∧ ((j : Int) == 0) = true ∧ s = none) ∨ ((x.f0 == 1) = false ∧ b1 = false ∧ b2 = true ∧ eb = true ∧ ((j : Int) == 0) = false ∧ (x.f3 != (j : Int) - 1) = true ∧ s = none) ∨
  ((x.f0 == 1) = false ∧ b1 = false ∧ b2 = true ∧ eb = true ∧ ((j : Int) == 0) = false ∧ x.f3 = (j : Int) - 1 ∧ fr.getD (j - 1) 0 = 0 ∧ s = none) ∨ ((x.f0 == 1) = false ∧ b1 = false ∧ b2 = true ∧ eb = true ∧ ((j : Int) == 0) = false ∧ x.f3 = (j : Int) - 1 ∧ 1 ≤ fr.getD (j - 1) 0 ∧ (x.f2 != fr.getD (j - 1) 0 - 1) = true ∧ s = none) ∨
  ((x.f0 == 1) = false ∧ b1 = false ∧ b2 = true ∧ eb = true ∧ ((j : Int) == 0) = false ∧ x.f3 = (j : Int) - 1 ∧ 1 ≤ fr.getD (j - 1) 0 ∧ x.f2 = fr.getD (j - 1) 0 - 1 ∧ s = some (fr.getD x.f2.toNat 0, max (dp.getD x.f2.toNat 0) (dp.getD x.f3.toNat 0) + 1)) := by
 subst e0 e1 e2 e3
 unfold stepN at h
 by_cases k0 : arms x.f0 = 0
 ·rw [if_pos k0] at h
  have k1 := arms_kind.1 k0
  by_cases m : matP x.f1.f0 x.f1.f1 = 0
  ·by_cases a : x.f2 = 0
   ·by_cases b : x.f3 = 0
    ·rw [if_neg (by simp [m, a, b])] at h
     simp [k1, m, a, b, h.symm]
    ·rw [if_pos (.inr (.inl b))] at h
     simp [k1, m, a, b, h.symm]
   ·rw [if_pos (.inl a)] at h
    simp [k1, m, a, h.symm]
  ·rw [if_pos (.inr (.inr m))] at h
   simp [k1, m, h.symm]
 have k1 : ¬ x.f0 = 1 := fun e => k0 (by rw [e]; rfl)
 rw [if_neg k0] at h
 by_cases q1 : arms x.f0 = 1
 ·rw [if_pos q1] at h
  by_cases b : emptyA x.f1 = true
  ·by_cases j0 : j = 0
   ·rw [if_pos (.inl (by omega))] at h
    simp [k1, q1, b, j0, h.symm]
   ·by_cases a : x.f2 = (j : Int) - 1
    ·by_cases d : x.f3 = 0
     ·rw [if_neg (by simp [a, d, b]; omega)] at h
      simp [k1, q1, b, j0, a, d, h.symm]
     ·rw [if_pos (.inr (.inr (.inl d)))] at h
      simp [k1, q1, b, j0, a, d, h.symm]
    ·rw [if_pos (.inr (.inl a))] at h
     simp [k1, q1, b, j0, a, h.symm]
  ·have b' : emptyA x.f1 = false := by simpa using b
   rw [if_pos (.inr (.inr (.inr b')))] at h
   simp [k1, q1, b', h.symm]
 rw [if_neg q1] at h
 by_cases q2 : arms x.f0 = 2
 ·rw [if_pos q2] at h
  by_cases b : emptyA x.f1 = true
  ·by_cases j0 : j = 0
   ·rw [if_pos (.inl (by omega))] at h
    simp [k1, q1, q2, b, j0, h.symm]
   ·have h5 := h0 (j - 1) (by omega)
    by_cases a : x.f3 = (j : Int) - 1
    ·by_cases d : fr.getD (j - 1) 0 = 0
     ·rw [if_pos (.inr (.inr (.inl (by omega))))] at h
      exact .inr (.inr (.inr (.inr (.inr (.inr (.inr (.inr (.inr (.inr (.inr (.inr (.inr (.inl ⟨by simp [k1], by simp [q1], by simp [q2], b, by simp [j0], a, d, h.symm⟩)))))))))))))
     ·have d2 : 1 ≤ fr.getD (j - 1) 0 := by omega
      by_cases f : x.f2 = fr.getD (j - 1) 0 - 1
      ·rw [if_neg (by rintro (e | e | e | e | e) <;> first | exact e a | exact e f | omega | (rw [b] at e; cases e))] at h
       exact .inr (.inr (.inr (.inr (.inr (.inr (.inr (.inr (.inr (.inr (.inr (.inr (.inr (.inr (.inr ⟨by simp [k1], by simp [q1], by simp [q2], b, by simp [j0], a, d2, f, h.symm⟩))))))))))))))
      ·rw [if_pos (.inr (.inr (.inr (.inl f))))] at h
       exact .inr (.inr (.inr (.inr (.inr (.inr (.inr (.inr (.inr (.inr (.inr (.inr (.inr (.inr (.inl ⟨by simp [k1], by simp [q1], by simp [q2], b, by simp [j0], a, d2, bne_iff_ne.2 f, h.symm⟩))))))))))))))
    ·rw [if_pos (.inr (.inl a))] at h
     simp [k1, q1, q2, b, j0, a, h.symm]
  ·have b' : emptyA x.f1 = false := by simpa using b
   rw [if_pos (.inr (.inr (.inr (.inr b'))))] at h
   simp [k1, q1, q2, b', h.symm]
 ·rw [if_neg q2] at h
  simp [k1, q1, q2, h.symm]
end Go.Proofs.YtghommaokdhjmaaGreat.Frm
namespace Go.Proofs.YtghommaokdhjmaaGreat.P
open Go.RowKit Go.Proofs.YtghommaokdhjmaaGreatW.PrintWords Go.Proofs.YtghommaokdhjmaaGreatW.PrintLast Gate
def qf80.f (a0 : Int) (a1 : Int) (a2 : Int) : Option (Bool) := if a0 ≥ a1 then (some (decide (a0 ≤ a2))) else (some false)
set_option maxHeartbeats 8000000 in
set_option maxRecDepth 100000 in
theorem qf80.calls (a0 : Int) (a1 : Int) (a2 : Int) (r : Bool) (w : World) (h : qf80.f a0 a1 a2 = some r) :
  Calls Tryz.prog 80 #[.int .i64 a0, .int .i64 a1, .int .i64 a2] w fun e w' => e = .returned (.bool r) ∧ Drawn0 w w' := by
 have H : (if a0 ≥ a1 then (some (decide (a0 ≤ a2))) else (some false)) = some r := h
 clear h
 by_cases c4 : a0 ≥ a1
 ·rw [if_pos c4] at H
  have c4b0 : decide (a1 ≤ a0) = true := decide_eq_true c4
  clear c4
  obtain rfl := Option.some.inj H
  go_enter Tryz.func80, Tryz.ntmps80
  go_wp2
  go_ret
  exact drz
 ·rw [if_neg c4] at H
  have c4b0 : decide (a1 ≤ a0) = false := decide_eq_false c4
  clear c4
  obtain rfl := Option.some.inj H
  go_enter Tryz.func80, Tryz.ntmps80
  go_wp2
  go_ret
  exact drz
def qf81.f (a0 : Int) : Option (Bool) := if a0 ≥ 65 then (some (decide (a0 ≤ 90))) else (some false)
set_option maxHeartbeats 8000000 in
set_option maxRecDepth 100000 in
theorem qf81.calls (a0 : Int) (r : Bool) (w : World) (h : qf81.f a0 = some r) :
  Calls Tryz.prog 81 #[.int .u8 a0] w fun e w' => e = .returned (.bool r) ∧ Drawn0 w w' := by
 have H : (if a0 ≥ 65 then (some (decide (a0 ≤ 90))) else (some false)) = some r := h
 clear h
 by_cases c2 : a0 ≥ 65
 ·rw [if_pos c2] at H
  have c2b0 : decide (65 ≤ a0) = true := decide_eq_true c2
  clear c2
  obtain rfl := Option.some.inj H
  go_enter Tryz.func81, Tryz.ntmps81
  go_wp2
  go_ret
  exact drz
 ·rw [if_neg c2] at H
  have c2b0 : decide (65 ≤ a0) = false := decide_eq_false c2
  clear c2
  obtain rfl := Option.some.inj H
  go_enter Tryz.func81, Tryz.ntmps81
  go_wp2
  go_ret
  exact drz
def qf82.f (a0 : Int) : Option (Bool) := if a0 ≥ 97 then (some (decide (a0 ≤ 122))) else (some false)
set_option maxHeartbeats 8000000 in
set_option maxRecDepth 100000 in
theorem qf82.calls (a0 : Int) (r : Bool) (w : World) (h : qf82.f a0 = some r) :
  Calls Tryz.prog 82 #[.int .u8 a0] w fun e w' => e = .returned (.bool r) ∧ Drawn0 w w' := by
 have H : (if a0 ≥ 97 then (some (decide (a0 ≤ 122))) else (some false)) = some r := h
 clear h
 by_cases c2 : a0 ≥ 97
 ·rw [if_pos c2] at H
  have c2b0 : decide (97 ≤ a0) = true := decide_eq_true c2
  clear c2
  obtain rfl := Option.some.inj H
  go_enter Tryz.func82, Tryz.ntmps82
  go_wp2
  go_ret
  exact drz
 ·rw [if_neg c2] at H
  have c2b0 : decide (97 ≤ a0) = false := decide_eq_false c2
  clear c2
  obtain rfl := Option.some.inj H
  go_enter Tryz.func82, Tryz.ntmps82
  go_wp2
  go_ret
  exact drz
def qf108.f (a0 : Int) : Option (Bool) := if a0 ≥ 48 then (some (decide (a0 ≤ 57))) else (some false)
set_option maxHeartbeats 8000000 in
set_option maxRecDepth 100000 in
theorem qf108.calls (a0 : Int) (r : Bool) (w : World) (h : qf108.f a0 = some r) :
  Calls Tryz.prog 108 #[.int .u8 a0] w fun e w' => e = .returned (.bool r) ∧ Drawn0 w w' := by
 have H : (if a0 ≥ 48 then (some (decide (a0 ≤ 57))) else (some false)) = some r := h
 clear h
 by_cases c2 : a0 ≥ 48
 ·rw [if_pos c2] at H
  have c2b0 : decide (48 ≤ a0) = true := decide_eq_true c2
  clear c2
  obtain rfl := Option.some.inj H
  go_enter Tryz.func108, Tryz.ntmps108
  go_wp2
  go_ret
  exact drz
 ·rw [if_neg c2] at H
  have c2b0 : decide (48 ≤ a0) = false := decide_eq_false c2
  clear c2
  obtain rfl := Option.some.inj H
  go_enter Tryz.func108, Tryz.ntmps108
  go_wp2
  go_ret
  exact drz
def qf83.f (a0 : Int) : Option (Bool) := (qf82.f a0).bind fun t712 => (if t712 = true then (some true) else ((qf81.f a0).bind fun t713 => (if t713 = true then (some true) else ((qf108.f a0).bind fun t714 => (if t714 = true then (some true) else (some (a0 == 95)))))))
set_option maxHeartbeats 8000000 in
set_option maxRecDepth 100000 in
theorem qf83.calls (a0 : Int) (r : Bool) (w : World) (h : qf83.f a0 = some r) :
  Calls Tryz.prog 83 #[.int .u8 a0] w fun e w' => e = .returned (.bool r) ∧ Drawn0 w w' := by
 have H : ((qf82.f a0).bind fun t712 => (if t712 = true then (some true) else ((qf81.f a0).bind fun t713 => (if t713 = true then (some true) else ((qf108.f a0).bind fun t714 => (if t714 = true then (some true) else (some (a0 == 95)))))))) = some r := h
 clear h
 replace H := Option.bind_eq_some_iff.mp H
 obtain ⟨t712, A20, H⟩ := H
 replace H : (if t712 = true then (some true) else ((qf81.f a0).bind fun t713 => (if t713 = true then (some true) else ((qf108.f a0).bind fun t714 => (if t714 = true then (some true) else (some (a0 == 95))))))) = some r := H
 have A2 := Aside0.mk A20
 clear A20
 by_cases c3 : t712 = true
 ·subst c3
  have H1 : (some true) = some r := by rw [if_pos rfl] at H; exact H
  clear H
  have H := H1
  clear H1
  obtain rfl := Option.some.inj H
  go_enter Tryz.func83, Tryz.ntmps83
  go_wp2_with (first | ((with_reducible refine gate_callee (f := 82) rfl ?_); refine goesL_ (some 4) rfl rfl Tryz.func82 (by kernel_rfl) rfl #[.int .u8 a0] rfl aG ?_; (with_reducible refine (qf82.calls a0 true _ A2.out).mono ?_); rintro e w' ⟨rfl, ⟨nd, rfl⟩⟩; refine ⟨_, rfl, ?_⟩))
  go_ret
  exact drz
 ·replace c3 := Bool.eq_false_iff.mpr c3
  subst c3
  have H1 : ((qf81.f a0).bind fun t713 => (if t713 = true then (some true) else ((qf108.f a0).bind fun t714 => (if t714 = true then (some true) else (some (a0 == 95)))))) = some r := by rw [if_neg (show ¬ (false = true) by decide)] at H; exact H
  clear H
  have H := H1
  clear H1
  replace H := Option.bind_eq_some_iff.mp H
  obtain ⟨t713, A40, H⟩ := H
  replace H : (if t713 = true then (some true) else ((qf108.f a0).bind fun t714 => (if t714 = true then (some true) else (some (a0 == 95))))) = some r := H
  have A4 := Aside0.mk A40
  clear A40
  by_cases c5 : t713 = true
  ·subst c5
   have H1 : (some true) = some r := by rw [if_pos rfl] at H; exact H
   clear H
   have H := H1
   clear H1
   obtain rfl := Option.some.inj H
   go_enter Tryz.func83, Tryz.ntmps83
   go_wp2_with (first | ((with_reducible refine gate_callee (f := 82) rfl ?_); refine goesL_ (some 4) rfl rfl Tryz.func82 (by kernel_rfl) rfl #[.int .u8 a0] rfl aG ?_; (with_reducible refine (qf82.calls a0 false _ A2.out).mono ?_); rintro e w' ⟨rfl, ⟨nd, rfl⟩⟩; refine ⟨_, rfl, ?_⟩) | (go_at_call 81; (with_reducible refine (qf81.calls a0 true _ A4.out).mono ?_); rintro e w' ⟨rfl, ⟨nd, rfl⟩⟩))
   go_ret
   exact drz
  ·replace c5 := Bool.eq_false_iff.mpr c5
   subst c5
   have H1 : ((qf108.f a0).bind fun t714 => (if t714 = true then (some true) else (some (a0 == 95)))) = some r := by rw [if_neg (show ¬ (false = true) by decide)] at H; exact H
   clear H
   have H := H1
   clear H1
   replace H := Option.bind_eq_some_iff.mp H
   obtain ⟨t714, A60, H⟩ := H
   replace H : (if t714 = true then (some true) else (some (a0 == 95))) = some r := H
   have A6 := Aside0.mk A60
   clear A60
   by_cases c7 : t714 = true
   ·subst c7
    have H1 : (some true) = some r := by rw [if_pos rfl] at H; exact H
    clear H
    have H := H1
    clear H1
    obtain rfl := Option.some.inj H
    go_enter Tryz.func83, Tryz.ntmps83
    go_wp2_with (first | ((with_reducible refine gate_callee (f := 82) rfl ?_); refine goesL_ (some 4) rfl rfl Tryz.func82 (by kernel_rfl) rfl #[.int .u8 a0] rfl aG ?_; (with_reducible refine (qf82.calls a0 false _ A2.out).mono ?_); rintro e w' ⟨rfl, ⟨nd, rfl⟩⟩; refine ⟨_, rfl, ?_⟩) | (go_at_call 81; (with_reducible refine (qf81.calls a0 false _ A4.out).mono ?_); rintro e w' ⟨rfl, ⟨nd, rfl⟩⟩) | (go_at_call 108; (with_reducible refine (qf108.calls a0 true _ A6.out).mono ?_); rintro e w' ⟨rfl, ⟨nd, rfl⟩⟩))
    go_ret
    exact drz
   ·replace c7 := Bool.eq_false_iff.mpr c7
    subst c7
    have H1 : (some (a0 == 95)) = some r := by rw [if_neg (show ¬ (false = true) by decide)] at H; exact H
    clear H
    have H := H1
    clear H1
    obtain rfl := Option.some.inj H
    go_enter Tryz.func83, Tryz.ntmps83
    go_wp2_with (first | ((with_reducible refine gate_callee (f := 82) rfl ?_); refine goesL_ (some 4) rfl rfl Tryz.func82 (by kernel_rfl) rfl #[.int .u8 a0] rfl aG ?_; (with_reducible refine (qf82.calls a0 false _ A2.out).mono ?_); rintro e w' ⟨rfl, ⟨nd, rfl⟩⟩; refine ⟨_, rfl, ?_⟩) | (go_at_call 81; (with_reducible refine (qf81.calls a0 false _ A4.out).mono ?_); rintro e w' ⟨rfl, ⟨nd, rfl⟩⟩) | (go_at_call 108; (with_reducible refine (qf108.calls a0 false _ A6.out).mono ?_); rintro e w' ⟨rfl, ⟨nd, rfl⟩⟩))
    go_ret
    exact drz
mutual
def qf51.j0 : Nat → ByteArray → Bool → Option (Bool)
 | 0, _, _ => none
 | k + 1, x0, x26 => if x26 = true then (some false) else (qf51.l0 k x0 0)
def qf51.l0 : Nat → ByteArray → Int → Option (Bool)
 | 0, _, _ => none
 | k + 1, x0, x5 => if x5 < (x0.size : Int) then (if 0 ≤ x5 then ((qf83.f (bt x0 x5)).bind fun t718 => (if t718 = true then (qf51.l0 k x0 (wrap64 (x5 + 1))) else (some false))) else (none)) else (some true)
end
def qf51.f (k : Nat) (a0 : ByteArray) (a1 : Bool) : Option (Bool) := (qf80.f (a0.size : Int) 1 24).bind fun t715 => (if t715 = true then (if 0 < (a0.size : Int) then ((qf81.f (bt a0 0)).bind fun t716 => (if (a1 != t716) = true then (qf51.j0 k a0 true) else (if a1 = true then (qf51.j0 k a0 false) else ((qf82.f (bt a0 0)).bind fun t717 => (qf51.j0 k a0 (!t717)))))) else (none)) else (qf51.j0 k a0 true))
set_option maxHeartbeats 8000000 in
set_option maxRecDepth 100000 in
theorem qf51.calls (k : Nat) (a0 : ByteArray) (a1 : Bool) (r : Bool) (w : World) (h : qf51.f k a0 a1 = some r) :
  Calls Tryz.prog 51 #[.string a0, .bool a1] w fun e w' => e = .returned (.bool r) ∧ Drawn0 w w' := by
 have H : ((qf80.f (a0.size : Int) 1 24).bind fun t715 => (if t715 = true then (if 0 < (a0.size : Int) then ((qf81.f (bt a0 0)).bind fun t716 => (if (a1 != t716) = true then (qf51.j0 k a0 true) else (if a1 = true then (qf51.j0 k a0 false) else ((qf82.f (bt a0 0)).bind fun t717 => (qf51.j0 k a0 (!t717)))))) else (none)) else (qf51.j0 k a0 true))) = some r := h
 clear h
 have HC3 := Aside0.mk H
 clear H
 go_enter Tryz.func51, Tryz.ntmps51
 go_upto_region 1 with (fail)
 go_cut [26] (fun v26 wc => ∃ (kq : Nat) (x26_2 : Bool), v26 = .bool x26_2 ∧ Aside0 (qf51.j0 kq a0 x26_2 = some r) ∧ Aside0 (kq ≤ k) ∧ Drawn0 w wc)
 case first =>
  have H := HC3.out
  clear HC3
  replace H := Option.bind_eq_some_iff.mp H
  obtain ⟨t715, A40, H⟩ := H
  replace H : (if t715 = true then (if 0 < (a0.size : Int) then ((qf81.f (bt a0 0)).bind fun t716 => (if (a1 != t716) = true then (qf51.j0 k a0 true) else (if a1 = true then (qf51.j0 k a0 false) else ((qf82.f (bt a0 0)).bind fun t717 => (qf51.j0 k a0 (!t717)))))) else (none)) else (qf51.j0 k a0 true)) = some r := H
  have A4 := Aside0.mk A40
  clear A40
  by_cases c5 : t715 = true
  ·subst c5
   have H1 : (if 0 < (a0.size : Int) then ((qf81.f (bt a0 0)).bind fun t716 => (if (a1 != t716) = true then (qf51.j0 k a0 true) else (if a1 = true then (qf51.j0 k a0 false) else ((qf82.f (bt a0 0)).bind fun t717 => (qf51.j0 k a0 (!t717)))))) else (none)) = some r := by rw [if_pos rfl] at H; exact H
   clear H
   have H := H1
   clear H1
   by_cases c6 : 0 < (a0.size : Int)
   ·rw [if_pos c6] at H
    have c6b0 : decide (0 < (a0.size : Int)) = true := decide_eq_true c6
    have c6b1 : decide (0 < a0.size) = true := decide_eq_true (by omega)
    clear c6
    (first | rw [c6b0] | (simp only [i64_w, i32_w]; rw [c6b0]) | skip)
    replace H := Option.bind_eq_some_iff.mp H
    obtain ⟨t716, A80, H⟩ := H
    replace H : (if (a1 != t716) = true then (qf51.j0 k a0 true) else (if a1 = true then (qf51.j0 k a0 false) else ((qf82.f (bt a0 0)).bind fun t717 => (qf51.j0 k a0 (!t717))))) = some r := H
    have A8 := Aside0.mk A80
    clear A80
    by_cases c9 : (a1 != t716) = true
    ·rw [if_pos c9] at H
     have c9b0 : (a1 != t716) = true := c9
     (try (have c9b1 : decide (a1 = t716) = false := by simpa using c9))
     (try (have c9b2 : (a1 == t716) = false := by simpa using c9))
     (try (have c9b3 : ¬ (a1 = t716) := by simpa using c9))
     clear c9
     have H' := Aside0.mk H
     clear H
     go_wp2_with (first | ((with_reducible refine gate_callee (f := 80) rfl ?_); refine goesL_ (some 8) rfl rfl Tryz.func80 (by kernel_rfl) rfl #[.int .i64 (a0.size : Int), .int .i64 1, .int .i64 24] rfl aG ?_; (with_reducible refine (qf80.calls (a0.size : Int) 1 24 true _ A4.out).mono ?_); rintro e w' ⟨rfl, ⟨nd, rfl⟩⟩; refine ⟨_, rfl, ?_⟩; have p7 : 0 ≤ (0 : Int) := (by omega); have q7 : 0 < a0.size := (by have : (0 : Int) < (a0.size : Int) := of_decide_eq_true (by first | (with_reducible assumption) | assumption); omega); have hx7 : ∀ h : 0 < a0.size, ((a0[0]'h).toNat : Int) = bt a0 0 := bt_at a0 0; clear p7; have qi7 : (0 < (a0.size : Int)) = True := eq_true (of_decide_eq_true (by first | (with_reducible assumption) | assumption)); replace q7 := eq_true q7) | (go_at_call 81; (with_reducible refine (qf81.calls (bt a0 0) t716 _ A8.out).mono ?_); rintro e w' ⟨rfl, ⟨nd, rfl⟩⟩))
     go_meet
     case rel => exact ⟨_, (true), (by first | rfl | (simp; done) | (simp [*]; done)), H', ⟨by first | omega | exact Nat.le_refl _⟩, by repeat (first | exact Drawn0.refl _ | apply Drawn0.step)⟩
    ·rw [if_neg c9] at H
     have c9b0 : (a1 != t716) = false := by simpa using c9
     (try (have c9b1 : decide (a1 = t716) = true := by simpa using c9))
     (try (have c9b2 : (a1 == t716) = true := by simpa using c9))
     clear c9
     by_cases c10 : a1 = true
     ·subst c10
      have H1 : (qf51.j0 k a0 false) = some r := by rw [if_pos rfl] at H; exact H
      clear H
      have H := H1
      clear H1
      have H' := Aside0.mk H
      clear H
      go_wp2_with (first | ((with_reducible refine gate_callee (f := 80) rfl ?_); refine goesL_ (some 8) rfl rfl Tryz.func80 (by kernel_rfl) rfl #[.int .i64 (a0.size : Int), .int .i64 1, .int .i64 24] rfl aG ?_; (with_reducible refine (qf80.calls (a0.size : Int) 1 24 true _ A4.out).mono ?_); rintro e w' ⟨rfl, ⟨nd, rfl⟩⟩; refine ⟨_, rfl, ?_⟩; have p7 : 0 ≤ (0 : Int) := (by omega); have q7 : 0 < a0.size := (by have : (0 : Int) < (a0.size : Int) := of_decide_eq_true (by first | (with_reducible assumption) | assumption); omega); have hx7 : ∀ h : 0 < a0.size, ((a0[0]'h).toNat : Int) = bt a0 0 := bt_at a0 0; clear p7; have qi7 : (0 < (a0.size : Int)) = True := eq_true (of_decide_eq_true (by first | (with_reducible assumption) | assumption)); replace q7 := eq_true q7) | (go_at_call 81; (with_reducible refine (qf81.calls (bt a0 0) t716 _ A8.out).mono ?_); rintro e w' ⟨rfl, ⟨nd, rfl⟩⟩))
      go_meet
      case rel => exact ⟨_, (false), (by first | rfl | (simp; done) | (simp [*]; done)), H', ⟨by first | omega | exact Nat.le_refl _⟩, by repeat (first | exact Drawn0.refl _ | apply Drawn0.step)⟩
     ·replace c10 := Bool.eq_false_iff.mpr c10
      subst c10
      have H1 : ((qf82.f (bt a0 0)).bind fun t717 => (qf51.j0 k a0 (!t717))) = some r := by rw [if_neg (show ¬ (false = true) by decide)] at H; exact H
      clear H
      have H := H1
      clear H1
      replace H := Option.bind_eq_some_iff.mp H
      obtain ⟨t717, A120, H⟩ := H
      replace H : (qf51.j0 k a0 (!t717)) = some r := H
      have A12 := Aside0.mk A120
      clear A120
      have H' := Aside0.mk H
      clear H
      go_wp2_with (first | ((with_reducible refine gate_callee (f := 80) rfl ?_); refine goesL_ (some 8) rfl rfl Tryz.func80 (by kernel_rfl) rfl #[.int .i64 (a0.size : Int), .int .i64 1, .int .i64 24] rfl aG ?_; (with_reducible refine (qf80.calls (a0.size : Int) 1 24 true _ A4.out).mono ?_); rintro e w' ⟨rfl, ⟨nd, rfl⟩⟩; refine ⟨_, rfl, ?_⟩; have p7 : 0 ≤ (0 : Int) := (by omega); have q7 : 0 < a0.size := (by have : (0 : Int) < (a0.size : Int) := of_decide_eq_true (by first | (with_reducible assumption) | assumption); omega); have hx7 : ∀ h : 0 < a0.size, ((a0[0]'h).toNat : Int) = bt a0 0 := bt_at a0 0; clear p7; have qi7 : (0 < (a0.size : Int)) = True := eq_true (of_decide_eq_true (by first | (with_reducible assumption) | assumption)); replace q7 := eq_true q7) | (go_at_call 81; (with_reducible refine (qf81.calls (bt a0 0) t716 _ A8.out).mono ?_); rintro e w' ⟨rfl, ⟨nd, rfl⟩⟩; have p11 : 0 ≤ (0 : Int) := (by omega); have q11 : 0 < a0.size := (by have : (0 : Int) < (a0.size : Int) := of_decide_eq_true (by first | (with_reducible assumption) | assumption); omega); have hx11 : ∀ h : 0 < a0.size, ((a0[0]'h).toNat : Int) = bt a0 0 := bt_at a0 0; clear p11; have qi11 : (0 < (a0.size : Int)) = True := eq_true (of_decide_eq_true (by first | (with_reducible assumption) | assumption)); replace q11 := eq_true q11) | (go_at_call 82; (with_reducible refine (qf82.calls (bt a0 0) t717 _ A12.out).mono ?_); rintro e w' ⟨rfl, ⟨nd, rfl⟩⟩))
      go_meet
      case rel => exact ⟨_, (!t717), (by first | rfl | (simp; done) | (simp [*]; done)), H', ⟨by first | omega | exact Nat.le_refl _⟩, by repeat (first | exact Drawn0.refl _ | apply Drawn0.step)⟩
   ·rw [if_neg c6] at H
    exact absurd H (by simp)
  ·replace c5 := Bool.eq_false_iff.mpr c5
   subst c5
   have H1 : (qf51.j0 k a0 true) = some r := by rw [if_neg (show ¬ (false = true) by decide)] at H; exact H
   clear H
   have H := H1
   clear H1
   have H' := Aside0.mk H
   clear H
   go_wp2_with (first | ((with_reducible refine gate_callee (f := 80) rfl ?_); refine goesL_ (some 8) rfl rfl Tryz.func80 (by kernel_rfl) rfl #[.int .i64 (a0.size : Int), .int .i64 1, .int .i64 24] rfl aG ?_; (with_reducible refine (qf80.calls (a0.size : Int) 1 24 false _ A4.out).mono ?_); rintro e w' ⟨rfl, ⟨nd, rfl⟩⟩; refine ⟨_, rfl, ?_⟩))
   go_meet
   case rel => exact ⟨_, (true), (by first | rfl | (simp; done) | (simp [*]; done)), H', ⟨by first | omega | exact Nat.le_refl _⟩, by repeat (first | exact Drawn0.refl _ | apply Drawn0.step)⟩
 case rest =>
  clear HC3
  (try clear c1); (try clear p1); (try clear q1); (try clear hx1); (try clear qi1); (try clear p2); (try clear c5); (try clear c6); (try clear c6b0); (try clear c6b1); (try clear p7); (try clear q7); (try clear hx7); (try clear qi7); (try clear c8); (try clear c9); (try clear c9b0); (try clear c9b1); (try clear c9b2); (try clear c10); (try clear p11); (try clear q11); (try clear hx11); (try clear qi11); (try clear p11); (try clear p7); (try clear q11); (try clear q7)
  obtain ⟨kq, x26_2, rfl, HA, HJ2, ⟨mc2, rfl⟩⟩ := hcut
  cases kq with
  | zero => exact absurd HA.out (by simp [qf51.j0])
  | succ kj2 =>
   have H := HA.out
   clear HA
   simp only [qf51.j0] at H
   by_cases c13 : x26_2 = true
   ·subst c13
    have H1 : (some false) = some r := by rw [if_pos rfl] at H; exact H
    clear H
    have H := H1
    clear H1
    obtain rfl := Option.some.inj H
    go_wp2
    go_ret
    exact drz
   ·replace c13 := Bool.eq_false_iff.mpr c13
    subst c13
    have H1 : (qf51.l0 kj2 a0 0) = some r := by rw [if_neg (show ¬ (false = true) by decide)] at H; exact H
    clear H
    have H := H1
    clear H1
    have H' := Aside0.mk H
    clear H
    go_wp2
    go_loopg [5] kj2 (fun kq v5 w' => ∃ (x5_2 : Int), v5 = .int .i64 x5_2 ∧ Aside0 (qf51.l0 kq a0 x5_2 = some r) ∧ Aside0 (kq ≤ kj2) ∧ Drawn0 w w')
    case atStart => exact ⟨(0), (by first | rfl | (simp; done) | (simp [*]; done)), H', ⟨Nat.le_refl _⟩, by repeat (first | exact Drawn0.refl _ | apply Drawn0.step)⟩
    case round =>
     clear H'
     (try clear c1); (try clear p1); (try clear q1); (try clear hx1); (try clear qi1); (try clear c2); (try clear p2); (try clear c5); (try clear c6); (try clear c6b0); (try clear c6b1); (try clear p7); (try clear q7); (try clear hx7); (try clear qi7); (try clear c8); (try clear c9); (try clear c9b0); (try clear c9b1); (try clear c9b2); (try clear c10); (try clear p11); (try clear q11); (try clear hx11); (try clear qi11); (try clear c13); (try clear p1); (try clear p11); (try clear p2); (try clear p7); (try clear q1); (try clear q11); (try clear q7)
     obtain ⟨x5_2, rfl, HA, HK2, ⟨m2, rfl⟩⟩ := hrel
     cases gk with
     | zero => exact absurd HA.out (by simp [qf51.l0])
     | succ k2 =>
      have H := HA.out
      clear HA
      simp only [qf51.l0] at H
      by_cases c14 : x5_2 < (a0.size : Int)
      ·rw [if_pos c14] at H
       have c14b0 : decide (x5_2 < (a0.size : Int)) = true := decide_eq_true c14
       clear c14
       by_cases c15 : 0 ≤ x5_2
       ·rw [if_pos c15] at H
        have c15b0 : decide (0 ≤ x5_2) = true := decide_eq_true c15
        clear c15
        replace H := Option.bind_eq_some_iff.mp H
        obtain ⟨t718, A170, H⟩ := H
        replace H : (if t718 = true then (qf51.l0 k2 a0 (wrap64 (x5_2 + 1))) else (some false)) = some r := H
        have A17 := Aside0.mk A170
        clear A170
        by_cases c18 : t718 = true
        ·subst c18
         have H1 : (qf51.l0 k2 a0 (wrap64 (x5_2 + 1))) = some r := by rw [if_pos rfl] at H; exact H
         clear H
         have H := H1
         clear H1
         have H' := Aside0.mk H
         clear H
         have p16 : 0 ≤ (x5_2 : Int) := of_decide_eq_true (by first | (with_reducible assumption) | assumption)
         have q16 : x5_2 < (a0.size : Int) := of_decide_eq_true (by first | (with_reducible assumption) | assumption)
         have hx16 := bt_at a0 x5_2
         replace p16 := eq_true p16
         replace q16 := eq_true q16
         go_wp2_with (first | ((with_reducible refine gate_callee (f := 83) rfl ?_); refine goesL_ (some 36) rfl rfl Tryz.func83 (by kernel_rfl) rfl #[.int .u8 (bt a0 x5_2)] rfl aG ?_; (with_reducible refine (qf83.calls (bt a0 x5_2) true _ A17.out).mono ?_); rintro e w' ⟨rfl, ⟨nd, rfl⟩⟩; refine ⟨_, rfl, ?_⟩))
         go_roundg k2
         case measure => have := HJ2.out; have := HK2.out; omega
         case rel => exact ⟨(wrap64 (x5_2 + 1)), (by first | rfl | (simp; done) | (simp [*]; done)), H', ⟨by have := HJ2.out; have := HK2.out; omega⟩, by repeat (first | exact Drawn0.refl _ | apply Drawn0.step)⟩
        ·replace c18 := Bool.eq_false_iff.mpr c18
         subst c18
         have H1 : (some false) = some r := by rw [if_neg (show ¬ (false = true) by decide)] at H; exact H
         clear H
         have H := H1
         clear H1
         obtain rfl := Option.some.inj H
         have p16 : 0 ≤ (x5_2 : Int) := of_decide_eq_true (by first | (with_reducible assumption) | assumption)
         have q16 : x5_2 < (a0.size : Int) := of_decide_eq_true (by first | (with_reducible assumption) | assumption)
         have hx16 := bt_at a0 x5_2
         replace p16 := eq_true p16
         replace q16 := eq_true q16
         go_wp2_with (first | ((with_reducible refine gate_callee (f := 83) rfl ?_); refine goesL_ (some 36) rfl rfl Tryz.func83 (by kernel_rfl) rfl #[.int .u8 (bt a0 x5_2)] rfl aG ?_; (with_reducible refine (qf83.calls (bt a0 x5_2) false _ A17.out).mono ?_); rintro e w' ⟨rfl, ⟨nd, rfl⟩⟩; refine ⟨_, rfl, ?_⟩))
         go_ret
         exact drz
       ·rw [if_neg c15] at H
        exact absurd H (by simp)
      ·rw [if_neg c14] at H
       have c14b0 : decide (x5_2 < (a0.size : Int)) = false := decide_eq_false c14
       clear c14
       obtain rfl := Option.some.inj H
       go_wp2
       go_ret
       exact drz
mutual
def qf52.j0 : Nat → Bool → Int → Int → ByteArray → Option (Bool)
 | 0, _, _, _, _ => none
 | k + 1, x37, x720000, x720001, x720002 => if x37 = true then (some false) else (qf52.l0 k 0 x720000 x720001 x720002)
def qf52.l0 : Nat → Int → Int → Int → ByteArray → Option (Bool)
 | 0, _, _, _, _ => none
 | k + 1, x3, x720000, x720001, x720002 => if x3 < (x720002.size : Int) then (if 0 ≤ x3 then ((qf80.f (wrap64 (bt x720002 x3)) 32 126).bind fun t722 => (if t722 = true then (qf52.l0 k (wrap64 (x3 + 1)) x720000 x720001 x720002) else (some false))) else (none)) else (some true)
end
def qf52.f (k : Nat) (a0_0 : Int) (a0_1 : Int) (a0_2 : ByteArray) : Option (Bool) := if a0_0 = 1 then ((qf80.f a0_1 (-4611686018427387904) 4611686018427387904).bind fun t720 => (if t720 = true then (some ((a0_2.size : Int) == 0)) else (some false))) else (if a0_0 = 2 then (if a0_1 = 0 then ((qf51.f k a0_2 false).bind fun t721 => (some t721)) else (some false)) else (if a0_0 = 3 then (if a0_1 = 0 then (qf52.j0 k (decide ((a0_2.size : Int) > 60)) a0_0 a0_1 a0_2) else (qf52.j0 k true a0_0 a0_1 a0_2)) else (some false)))
set_option maxHeartbeats 8000000 in
set_option maxRecDepth 100000 in
theorem qf52.calls (k : Nat) (a0_0 : Int) (a0_1 : Int) (a0_2 : ByteArray) (r : Bool) (w : World) (h : qf52.f k a0_0 a0_1 a0_2 = some r) :
  Calls Tryz.prog 52 #[.agg #[.int .i64 a0_0, .int .i64 a0_1, .string a0_2]] w fun e w' => e = .returned (.bool r) ∧ Below w.heap.size w w' := by
 have hu64 := Tryz.underlying64
 have HB := Aside0.mk (Below.refl w.heap.size w)
 have H : (if a0_0 = 1 then ((qf80.f a0_1 (-4611686018427387904) 4611686018427387904).bind fun t720 => (if t720 = true then (some ((a0_2.size : Int) == 0)) else (some false))) else (if a0_0 = 2 then (if a0_1 = 0 then ((qf51.f k a0_2 false).bind fun t721 => (some t721)) else (some false)) else (if a0_0 = 3 then (if a0_1 = 0 then (qf52.j0 k (decide ((a0_2.size : Int) > 60)) a0_0 a0_1 a0_2) else (qf52.j0 k true a0_0 a0_1 a0_2)) else (some false)))) = some r := h
 clear h
 by_cases c2 : a0_0 = 1
 ·rw [if_pos c2] at H
  have c2b0 : (a0_0 == 1) = true := beq_iff_eq.mpr c2
  have c2b1 : (a0_0 != 1) = false := bne_eq_false_iff_eq.mpr c2
  clear c2
  replace H := Option.bind_eq_some_iff.mp H
  obtain ⟨t720, A30, H⟩ := H
  replace H : (if t720 = true then (some ((a0_2.size : Int) == 0)) else (some false)) = some r := H
  have A3 := Aside0.mk A30
  clear A30
  by_cases c4 : t720 = true
  ·subst c4
   have H1 : (some ((a0_2.size : Int) == 0)) = some r := by rw [if_pos rfl] at H; exact H
   clear H
   have H := H1
   clear H1
   obtain rfl := Option.some.inj H
   go_enter Tryz.func52, Tryz.ntmps52
   go_wp2_with (first | ((with_reducible refine gate_dst (N := 1) rfl ?_); (try (refine gate_guard (by rfl) ?_; dsimp only)); refine bE (N := 1) (cs := #[.int .i64 a0_0, .int .i64 a0_1, .string a0_2]) (t := 64) ?_; intro gb719 hg w5 hbox hb; have n0_ := Aside0.mk (below_step bB0 hb); have n1_ := Aside0.mk (hbox); have n2_ := Aside0.mk ((by rw [hg]; exact (below_size bB0) : w.heap.size ≤ gb719)); have n3_ := Aside0.mk ((by rw [hg]; exact (below_size bB0) : w.heap.size ≤ gb719)); clear HB; have HB := n0_; have BK719 := n1_; have GW719 := n2_; have GE719 := n3_; clear n0_ n1_ n2_ n3_; clear hb hbox hg; have hcz6_0 : w5.cell? ⟨gb719, 0, none⟩ = some (.int .i64 a0_0) := (blk_cell BK719.out 0).trans rfl; have hcz6_1 : w5.cell? ⟨gb719, 1, none⟩ = some (.int .i64 a0_1) := (blk_cell BK719.out 1).trans rfl; have hcz6_2 : w5.cell? ⟨gb719, 2, none⟩ = some (.string a0_2) := (blk_cell BK719.out 2).trans rfl; have hfz6_0 := blk_frozen BK719.out 0; have hfz6_1 := blk_frozen BK719.out 1; have hfz6_2 := blk_frozen BK719.out 2) | ((with_reducible refine gate_callee (f := 80) rfl ?_); refine goesL_ (some 10) rfl rfl Tryz.func80 (by kernel_rfl) rfl #[.int .i64 a0_1, .int .i64 (-4611686018427387904), .int .i64 4611686018427387904] rfl aG ?_; (with_reducible refine (qf80.calls a0_1 (-4611686018427387904) 4611686018427387904 true _ A3.out).mono ?_); rintro e w' ⟨rfl, ⟨nd, rfl⟩⟩; refine ⟨_, rfl, ?_⟩))
   go_ret
   exact ⟨eW, (bB1 GE719.out)⟩
  ·replace c4 := Bool.eq_false_iff.mpr c4
   subst c4
   have H1 : (some false) = some r := by rw [if_neg (show ¬ (false = true) by decide)] at H; exact H
   clear H
   have H := H1
   clear H1
   obtain rfl := Option.some.inj H
   go_enter Tryz.func52, Tryz.ntmps52
   go_wp2_with (first | ((with_reducible refine gate_dst (N := 1) rfl ?_); (try (refine gate_guard (by rfl) ?_; dsimp only)); refine bE (N := 1) (cs := #[.int .i64 a0_0, .int .i64 a0_1, .string a0_2]) (t := 64) ?_; intro gb719 hg w7 hbox hb; have n0_ := Aside0.mk (below_step bB0 hb); have n1_ := Aside0.mk (hbox); have n2_ := Aside0.mk ((by rw [hg]; exact (below_size bB0) : w.heap.size ≤ gb719)); have n3_ := Aside0.mk ((by rw [hg]; exact (below_size bB0) : w.heap.size ≤ gb719)); clear HB; have HB := n0_; have BK719 := n1_; have GW719 := n2_; have GE719 := n3_; clear n0_ n1_ n2_ n3_; clear hb hbox hg; have hcz8_0 : w7.cell? ⟨gb719, 0, none⟩ = some (.int .i64 a0_0) := (blk_cell BK719.out 0).trans rfl; have hcz8_1 : w7.cell? ⟨gb719, 1, none⟩ = some (.int .i64 a0_1) := (blk_cell BK719.out 1).trans rfl; have hcz8_2 : w7.cell? ⟨gb719, 2, none⟩ = some (.string a0_2) := (blk_cell BK719.out 2).trans rfl; have hfz8_0 := blk_frozen BK719.out 0; have hfz8_1 := blk_frozen BK719.out 1; have hfz8_2 := blk_frozen BK719.out 2) | ((with_reducible refine gate_callee (f := 80) rfl ?_); refine goesL_ (some 10) rfl rfl Tryz.func80 (by kernel_rfl) rfl #[.int .i64 a0_1, .int .i64 (-4611686018427387904), .int .i64 4611686018427387904] rfl aG ?_; (with_reducible refine (qf80.calls a0_1 (-4611686018427387904) 4611686018427387904 false _ A3.out).mono ?_); rintro e w' ⟨rfl, ⟨nd, rfl⟩⟩; refine ⟨_, rfl, ?_⟩))
   go_ret
   exact ⟨eW, (bB1 GE719.out)⟩
 ·rw [if_neg c2] at H
  have c2b0 : (a0_0 == 1) = false := beq_eq_false_iff_ne.mpr c2
  have c2b1 : (a0_0 != 1) = true := bne_iff_ne.mpr c2
  by_cases c9 : a0_0 = 2
  ·rw [if_pos c9] at H
   have c9b0 : (a0_0 == 2) = true := beq_iff_eq.mpr c9
   have c9b1 : (a0_0 != 2) = false := bne_eq_false_iff_eq.mpr c9
   clear c9
   by_cases c10 : a0_1 = 0
   ·rw [if_pos c10] at H
    have c10b0 : (a0_1 == 0) = true := beq_iff_eq.mpr c10
    have c10b1 : (a0_1 != 0) = false := bne_eq_false_iff_eq.mpr c10
    clear c10
    replace H := Option.bind_eq_some_iff.mp H
    obtain ⟨t721, A110, H⟩ := H
    replace H : (some t721) = some r := H
    have A11 := Aside0.mk A110
    clear A110
    obtain rfl := Option.some.inj H
    go_enter Tryz.func52, Tryz.ntmps52
    go_wp2_with (first | ((with_reducible refine gate_dst (N := 1) rfl ?_); (try (refine gate_guard (by rfl) ?_; dsimp only)); refine bE (N := 1) (cs := #[.int .i64 a0_0, .int .i64 a0_1, .string a0_2]) (t := 64) ?_; intro gb719 hg w12 hbox hb; have n0_ := Aside0.mk (below_step bB0 hb); have n1_ := Aside0.mk (hbox); have n2_ := Aside0.mk ((by rw [hg]; exact (below_size bB0) : w.heap.size ≤ gb719)); have n3_ := Aside0.mk ((by rw [hg]; exact (below_size bB0) : w.heap.size ≤ gb719)); clear HB; have HB := n0_; have BK719 := n1_; have GW719 := n2_; have GE719 := n3_; clear n0_ n1_ n2_ n3_; clear hb hbox hg; have hcz13_0 : w12.cell? ⟨gb719, 0, none⟩ = some (.int .i64 a0_0) := (blk_cell BK719.out 0).trans rfl; have hcz13_1 : w12.cell? ⟨gb719, 1, none⟩ = some (.int .i64 a0_1) := (blk_cell BK719.out 1).trans rfl; have hcz13_2 : w12.cell? ⟨gb719, 2, none⟩ = some (.string a0_2) := (blk_cell BK719.out 2).trans rfl; have hfz13_0 := blk_frozen BK719.out 0; have hfz13_1 := blk_frozen BK719.out 1; have hfz13_2 := blk_frozen BK719.out 2) | (go_at_call 51; (with_reducible refine (qf51.calls k a0_2 false t721 _ A11.out).mono ?_); rintro e w' ⟨rfl, ⟨nd, rfl⟩⟩))
    go_ret
    exact ⟨eW, (bB1 GE719.out)⟩
   ·rw [if_neg c10] at H
    have c10b0 : (a0_1 == 0) = false := beq_eq_false_iff_ne.mpr c10
    have c10b1 : (a0_1 != 0) = true := bne_iff_ne.mpr c10
    obtain rfl := Option.some.inj H
    go_enter Tryz.func52, Tryz.ntmps52
    go_wp2_with (first | ((with_reducible refine gate_dst (N := 1) rfl ?_); (try (refine gate_guard (by rfl) ?_; dsimp only)); refine bE (N := 1) (cs := #[.int .i64 a0_0, .int .i64 a0_1, .string a0_2]) (t := 64) ?_; intro gb719 hg w14 hbox hb; have n0_ := Aside0.mk (below_step bB0 hb); have n1_ := Aside0.mk (hbox); have n2_ := Aside0.mk ((by rw [hg]; exact (below_size bB0) : w.heap.size ≤ gb719)); have n3_ := Aside0.mk ((by rw [hg]; exact (below_size bB0) : w.heap.size ≤ gb719)); clear HB; have HB := n0_; have BK719 := n1_; have GW719 := n2_; have GE719 := n3_; clear n0_ n1_ n2_ n3_; clear hb hbox hg; have hcz15_0 : w14.cell? ⟨gb719, 0, none⟩ = some (.int .i64 a0_0) := (blk_cell BK719.out 0).trans rfl; have hcz15_1 : w14.cell? ⟨gb719, 1, none⟩ = some (.int .i64 a0_1) := (blk_cell BK719.out 1).trans rfl; have hcz15_2 : w14.cell? ⟨gb719, 2, none⟩ = some (.string a0_2) := (blk_cell BK719.out 2).trans rfl; have hfz15_0 := blk_frozen BK719.out 0; have hfz15_1 := blk_frozen BK719.out 1; have hfz15_2 := blk_frozen BK719.out 2))
    go_ret
    exact ⟨eW, (bB1 GE719.out)⟩
  ·rw [if_neg c9] at H
   have c9b0 : (a0_0 == 2) = false := beq_eq_false_iff_ne.mpr c9
   have c9b1 : (a0_0 != 2) = true := bne_iff_ne.mpr c9
   by_cases c16 : a0_0 = 3
   ·rw [if_pos c16] at H
    have c16b0 : (a0_0 == 3) = true := beq_iff_eq.mpr c16
    have c16b1 : (a0_0 != 3) = false := bne_eq_false_iff_eq.mpr c16
    clear c16
    have HC17 := Aside0.mk H
    clear H
    go_enter Tryz.func52, Tryz.ntmps52
    go_upto_region 7 with (first | ((with_reducible refine gate_dst (N := 1) rfl ?_); (try (refine gate_guard (by rfl) ?_; dsimp only)); refine bE (N := 1) (cs := #[.int .i64 a0_0, .int .i64 a0_1, .string a0_2]) (t := 64) ?_; intro gb719 hg w18 hbox hb; have n0_ := Aside0.mk (below_step bB0 hb); have n1_ := Aside0.mk (hbox); have n2_ := Aside0.mk ((by rw [hg]; exact (below_size bB0) : w.heap.size ≤ gb719)); have n3_ := Aside0.mk ((by rw [hg]; exact (below_size bB0) : w.heap.size ≤ gb719)); clear HB; have HB := n0_; have BK719 := n1_; have GW719 := n2_; have GE719 := n3_; clear n0_ n1_ n2_ n3_; clear hb hbox hg; have hcz19_0 : w18.cell? ⟨gb719, 0, none⟩ = some (.int .i64 a0_0) := (blk_cell BK719.out 0).trans rfl; have hcz19_1 : w18.cell? ⟨gb719, 1, none⟩ = some (.int .i64 a0_1) := (blk_cell BK719.out 1).trans rfl; have hcz19_2 : w18.cell? ⟨gb719, 2, none⟩ = some (.string a0_2) := (blk_cell BK719.out 2).trans rfl; have hfz19_0 := blk_frozen BK719.out 0; have hfz19_1 := blk_frozen BK719.out 1; have hfz19_2 := blk_frozen BK719.out 2))
    (try simp only [Act.put, List.setIfInBounds_toArray, List.set_cons_zero, List.set_cons_succ])
    go_cut [37] (fun v37 wc => ∃ (kq : Nat) (x37_16 : Bool), v37 = .bool x37_16 ∧ Aside0 (qf52.j0 kq x37_16 a0_0 a0_1 a0_2 = some r) ∧ Aside0 (kq ≤ k) ∧ Aside0 (wc.heap[gb719]? = some (.cells #[.int .i64 a0_0, .int .i64 a0_1, .string a0_2] 64 (0, 0))) ∧ Aside0 (Below w.heap.size w wc))
    case first =>
     have H := HC17.out
     clear HC17
     by_cases c20 : a0_1 = 0
     ·rw [if_pos c20] at H
      have c20b0 : (a0_1 == 0) = true := beq_iff_eq.mpr c20
      have c20b1 : (a0_1 != 0) = false := bne_eq_false_iff_eq.mpr c20
      clear c20
      (first | rw [c20b0] | (simp only [i64_w, i32_w]; rw [c20b0]) | skip)
      have H' := Aside0.mk H
      clear H
      have hcz21_0 : w18.cell? ⟨gb719, 0, none⟩ = some (.int .i64 a0_0) := (blk_cell BK719.out 0).trans rfl
      have hcz21_1 : w18.cell? ⟨gb719, 1, none⟩ = some (.int .i64 a0_1) := (blk_cell BK719.out 1).trans rfl
      have hcz21_2 : w18.cell? ⟨gb719, 2, none⟩ = some (.string a0_2) := (blk_cell BK719.out 2).trans rfl
      have hfz21_0 := blk_frozen BK719.out 0
      have hfz21_1 := blk_frozen BK719.out 1
      have hfz21_2 := blk_frozen BK719.out 2
      go_wp2
      go_meet
      case rel => exact ⟨_, (decide ((a0_2.size : Int) > 60)), (by first | rfl | (simp; done) | (simp [*]; done)), H', ⟨by first | omega | exact Nat.le_refl _⟩, ⟨by refine bk ?_; exact BK719.out⟩, ⟨(bB1 GE719.out)⟩⟩
     ·rw [if_neg c20] at H
      have c20b0 : (a0_1 == 0) = false := beq_eq_false_iff_ne.mpr c20
      have c20b1 : (a0_1 != 0) = true := bne_iff_ne.mpr c20
      (first | rw [c20b0] | (simp only [i64_w, i32_w]; rw [c20b0]) | skip)
      have H' := Aside0.mk H
      clear H
      have hcz22_0 : w18.cell? ⟨gb719, 0, none⟩ = some (.int .i64 a0_0) := (blk_cell BK719.out 0).trans rfl
      have hcz22_1 : w18.cell? ⟨gb719, 1, none⟩ = some (.int .i64 a0_1) := (blk_cell BK719.out 1).trans rfl
      have hcz22_2 : w18.cell? ⟨gb719, 2, none⟩ = some (.string a0_2) := (blk_cell BK719.out 2).trans rfl
      have hfz22_0 := blk_frozen BK719.out 0
      have hfz22_1 := blk_frozen BK719.out 1
      have hfz22_2 := blk_frozen BK719.out 2
      go_wp2
      go_meet
      case rel => exact ⟨_, (true), (by first | rfl | (simp; done) | (simp [*]; done)), H', ⟨by first | omega | exact Nat.le_refl _⟩, ⟨by refine bk ?_; exact BK719.out⟩, ⟨(bB1 GE719.out)⟩⟩
    case rest =>
     clear HC17
     (try clear c1); (try clear c2); (try clear c2b0); (try clear c2b1); (try clear p2); (try clear c4); (try clear c5); (try clear c8); (try clear c9); (try clear c9b0); (try clear c9b1); (try clear c10); (try clear c10b0); (try clear c10b1); (try clear c16); (try clear c16b0); (try clear c16b1); (try clear c20); (try clear c20b0); (try clear c20b1); (try clear hcz13_0); (try clear hcz13_1); (try clear hcz13_2); (try clear hcz15_0); (try clear hcz15_1); (try clear hcz15_2); (try clear hcz19_0); (try clear hcz19_1); (try clear hcz19_2); (try clear hcz21_0); (try clear hcz21_1); (try clear hcz21_2); (try clear hcz22_0); (try clear hcz22_1); (try clear hcz22_2); (try clear hcz6_0); (try clear hcz6_1); (try clear hcz6_2); (try clear hcz8_0); (try clear hcz8_1); (try clear hcz8_2); (try clear hfz13_0); (try clear hfz13_1); (try clear hfz13_2); (try clear hfz15_0); (try clear hfz15_1); (try clear hfz15_2); (try clear hfz19_0); (try clear hfz19_1); (try clear hfz19_2); (try clear hfz21_0); (try clear hfz21_1); (try clear hfz21_2); (try clear hfz22_0); (try clear hfz22_1); (try clear hfz22_2); (try clear hfz6_0); (try clear hfz6_1); (try clear hfz6_2); (try clear hfz8_0); (try clear hfz8_1); (try clear hfz8_2)
     obtain ⟨kq, x37_16, rfl, HA, HJ16, BK719, HB⟩ := hcut
     cases kq with
     | zero => exact absurd HA.out (by simp [qf52.j0])
     | succ kj16 =>
      have H := HA.out
      clear HA
      simp only [qf52.j0] at H
      by_cases c23 : x37_16 = true
      ·subst c23
       have H1 : (some false) = some r := by rw [if_pos rfl] at H; exact H
       clear H
       have H := H1
       clear H1
       obtain rfl := Option.some.inj H
       go_wp2
       go_ret
       exact ⟨eW, (bB1 GE719.out)⟩
      ·replace c23 := Bool.eq_false_iff.mpr c23
       subst c23
       have H1 : (qf52.l0 kj16 0 a0_0 a0_1 a0_2) = some r := by rw [if_neg (show ¬ (false = true) by decide)] at H; exact H
       clear H
       have H := H1
       clear H1
       have H' := Aside0.mk H
       clear H
       go_wp2
       go_loopg [3] kj16 (fun kq v3 w' => ∃ (x3_2 : Int), v3 = .int .i64 x3_2 ∧ Aside0 (qf52.l0 kq x3_2 a0_0 a0_1 a0_2 = some r) ∧ Aside0 (kq ≤ kj16) ∧ Aside0 (w'.heap[gb719]? = some (.cells #[.int .i64 a0_0, .int .i64 a0_1, .string a0_2] 64 (0, 0))) ∧ Aside0 (Below w.heap.size w w'))
       case atStart => exact ⟨(0), (by first | rfl | (simp; done) | (simp [*]; done)), H', ⟨Nat.le_refl _⟩, ⟨by refine bk ?_; exact BK719.out⟩, ⟨(bB1 GE719.out)⟩⟩
       case round =>
        clear H'
        (try clear c1); (try clear c2); (try clear c2b0); (try clear c2b1); (try clear p2); (try clear c4); (try clear c5); (try clear c8); (try clear c9); (try clear c9b0); (try clear c9b1); (try clear c10); (try clear c10b0); (try clear c10b1); (try clear c16); (try clear c16b0); (try clear c16b1); (try clear c20); (try clear c20b0); (try clear c20b1); (try clear c23); (try clear hcz13_0); (try clear hcz13_1); (try clear hcz13_2); (try clear hcz15_0); (try clear hcz15_1); (try clear hcz15_2); (try clear hcz19_0); (try clear hcz19_1); (try clear hcz19_2); (try clear hcz21_0); (try clear hcz21_1); (try clear hcz21_2); (try clear hcz22_0); (try clear hcz22_1); (try clear hcz22_2); (try clear hcz6_0); (try clear hcz6_1); (try clear hcz6_2); (try clear hcz8_0); (try clear hcz8_1); (try clear hcz8_2); (try clear hfz13_0); (try clear hfz13_1); (try clear hfz13_2); (try clear hfz15_0); (try clear hfz15_1); (try clear hfz15_2); (try clear hfz19_0); (try clear hfz19_1); (try clear hfz19_2); (try clear hfz21_0); (try clear hfz21_1); (try clear hfz21_2); (try clear hfz22_0); (try clear hfz22_1); (try clear hfz22_2); (try clear hfz6_0); (try clear hfz6_1); (try clear hfz6_2); (try clear hfz8_0); (try clear hfz8_1); (try clear hfz8_2); (try clear p2)
        obtain ⟨x3_2, rfl, HA, HK2, BK719, HB⟩ := hrel
        cases gk with
        | zero => exact absurd HA.out (by simp [qf52.l0])
        | succ k2 =>
         have H := HA.out
         clear HA
         simp only [qf52.l0] at H
         by_cases c24 : x3_2 < (a0_2.size : Int)
         ·rw [if_pos c24] at H
          have c24b0 : decide (x3_2 < (a0_2.size : Int)) = true := decide_eq_true c24
          clear c24
          by_cases c25 : 0 ≤ x3_2
          ·rw [if_pos c25] at H
           have c25b0 : decide (0 ≤ x3_2) = true := decide_eq_true c25
           clear c25
           replace H := Option.bind_eq_some_iff.mp H
           obtain ⟨t722, A270, H⟩ := H
           replace H : (if t722 = true then (qf52.l0 k2 (wrap64 (x3_2 + 1)) a0_0 a0_1 a0_2) else (some false)) = some r := H
           have A27 := Aside0.mk A270
           clear A270
           by_cases c28 : t722 = true
           ·subst c28
            have H1 : (qf52.l0 k2 (wrap64 (x3_2 + 1)) a0_0 a0_1 a0_2) = some r := by rw [if_pos rfl] at H; exact H
            clear H
            have H := H1
            clear H1
            have H' := Aside0.mk H
            clear H
            have hcz29_0 : wr.cell? ⟨gb719, 0, none⟩ = some (.int .i64 a0_0) := (blk_cell BK719.out 0).trans rfl
            have hcz29_1 : wr.cell? ⟨gb719, 1, none⟩ = some (.int .i64 a0_1) := (blk_cell BK719.out 1).trans rfl
            have hcz29_2 : wr.cell? ⟨gb719, 2, none⟩ = some (.string a0_2) := (blk_cell BK719.out 2).trans rfl
            have hfz29_0 := blk_frozen BK719.out 0
            have hfz29_1 := blk_frozen BK719.out 1
            have hfz29_2 := blk_frozen BK719.out 2
            have p26 : 0 ≤ (x3_2 : Int) := of_decide_eq_true (by first | (with_reducible assumption) | assumption)
            have q26 : x3_2 < (a0_2.size : Int) := of_decide_eq_true (by first | (with_reducible assumption) | assumption)
            have hx26 := bt_at a0_2 x3_2
            replace p26 := eq_true p26
            replace q26 := eq_true q26
            go_wp2_with (first | ((with_reducible refine gate_callee (f := 80) rfl ?_); refine goesL_ (some 50) rfl rfl Tryz.func80 (by kernel_rfl) rfl #[.int .i64 (wrap64 (bt a0_2 x3_2)), .int .i64 32, .int .i64 126] rfl aG ?_; (with_reducible refine (qf80.calls (wrap64 (bt a0_2 x3_2)) 32 126 true _ A27.out).mono ?_); rintro e w' ⟨rfl, ⟨nd, rfl⟩⟩; refine ⟨_, rfl, ?_⟩))
            go_roundg k2
            case measure => have := HJ16.out; have := HK2.out; omega
            case rel => exact ⟨(wrap64 (x3_2 + 1)), (by first | rfl | (simp; done) | (simp [*]; done)), H', ⟨by have := HJ16.out; have := HK2.out; omega⟩, ⟨by refine bk ?_; exact BK719.out⟩, ⟨(bB1 GE719.out)⟩⟩
           ·replace c28 := Bool.eq_false_iff.mpr c28
            subst c28
            have H1 : (some false) = some r := by rw [if_neg (show ¬ (false = true) by decide)] at H; exact H
            clear H
            have H := H1
            clear H1
            obtain rfl := Option.some.inj H
            have hcz30_0 : wr.cell? ⟨gb719, 0, none⟩ = some (.int .i64 a0_0) := (blk_cell BK719.out 0).trans rfl
            have hcz30_1 : wr.cell? ⟨gb719, 1, none⟩ = some (.int .i64 a0_1) := (blk_cell BK719.out 1).trans rfl
            have hcz30_2 : wr.cell? ⟨gb719, 2, none⟩ = some (.string a0_2) := (blk_cell BK719.out 2).trans rfl
            have hfz30_0 := blk_frozen BK719.out 0
            have hfz30_1 := blk_frozen BK719.out 1
            have hfz30_2 := blk_frozen BK719.out 2
            have p26 : 0 ≤ (x3_2 : Int) := of_decide_eq_true (by first | (with_reducible assumption) | assumption)
            have q26 : x3_2 < (a0_2.size : Int) := of_decide_eq_true (by first | (with_reducible assumption) | assumption)
            have hx26 := bt_at a0_2 x3_2
            replace p26 := eq_true p26
            replace q26 := eq_true q26
            go_wp2_with (first | ((with_reducible refine gate_callee (f := 80) rfl ?_); refine goesL_ (some 50) rfl rfl Tryz.func80 (by kernel_rfl) rfl #[.int .i64 (wrap64 (bt a0_2 x3_2)), .int .i64 32, .int .i64 126] rfl aG ?_; (with_reducible refine (qf80.calls (wrap64 (bt a0_2 x3_2)) 32 126 false _ A27.out).mono ?_); rintro e w' ⟨rfl, ⟨nd, rfl⟩⟩; refine ⟨_, rfl, ?_⟩))
            go_ret
            exact ⟨eW, (bB1 GE719.out)⟩
          ·rw [if_neg c25] at H
           exact absurd H (by simp)
         ·rw [if_neg c24] at H
          have c24b0 : decide (x3_2 < (a0_2.size : Int)) = false := decide_eq_false c24
          clear c24
          obtain rfl := Option.some.inj H
          have hcz31_0 : wr.cell? ⟨gb719, 0, none⟩ = some (.int .i64 a0_0) := (blk_cell BK719.out 0).trans rfl
          have hcz31_1 : wr.cell? ⟨gb719, 1, none⟩ = some (.int .i64 a0_1) := (blk_cell BK719.out 1).trans rfl
          have hcz31_2 : wr.cell? ⟨gb719, 2, none⟩ = some (.string a0_2) := (blk_cell BK719.out 2).trans rfl
          have hfz31_0 := blk_frozen BK719.out 0
          have hfz31_1 := blk_frozen BK719.out 1
          have hfz31_2 := blk_frozen BK719.out 2
          go_wp2
          go_ret
          exact ⟨eW, (bB1 GE719.out)⟩
   ·rw [if_neg c16] at H
    have c16b0 : (a0_0 == 3) = false := beq_eq_false_iff_ne.mpr c16
    have c16b1 : (a0_0 != 3) = true := bne_iff_ne.mpr c16
    obtain rfl := Option.some.inj H
    go_enter Tryz.func52, Tryz.ntmps52
    go_wp2_with (first | ((with_reducible refine gate_dst (N := 1) rfl ?_); (try (refine gate_guard (by rfl) ?_; dsimp only)); refine bE (N := 1) (cs := #[.int .i64 a0_0, .int .i64 a0_1, .string a0_2]) (t := 64) ?_; intro gb719 hg w32 hbox hb; have n0_ := Aside0.mk (below_step bB0 hb); have n1_ := Aside0.mk (hbox); have n2_ := Aside0.mk ((by rw [hg]; exact (below_size bB0) : w.heap.size ≤ gb719)); have n3_ := Aside0.mk ((by rw [hg]; exact (below_size bB0) : w.heap.size ≤ gb719)); clear HB; have HB := n0_; have BK719 := n1_; have GW719 := n2_; have GE719 := n3_; clear n0_ n1_ n2_ n3_; clear hb hbox hg; have hcz33_0 : w32.cell? ⟨gb719, 0, none⟩ = some (.int .i64 a0_0) := (blk_cell BK719.out 0).trans rfl; have hcz33_1 : w32.cell? ⟨gb719, 1, none⟩ = some (.int .i64 a0_1) := (blk_cell BK719.out 1).trans rfl; have hcz33_2 : w32.cell? ⟨gb719, 2, none⟩ = some (.string a0_2) := (blk_cell BK719.out 2).trans rfl; have hfz33_0 := blk_frozen BK719.out 0; have hfz33_1 := blk_frozen BK719.out 1; have hfz33_2 := blk_frozen BK719.out 2))
    go_ret
    exact ⟨eW, (bB1 GE719.out)⟩
end Go.Proofs.YtghommaokdhjmaaGreat.P
/- The references' words and values answer what the plain forms say; texts no longer than a million bytes. -/
namespace Go.Proofs.YtghommaokdhjmaaGreat.SpecB
open Go.RowKit Go.Proofs.YtghommaokdhjmaaGreatW.PrintWords Go.Proofs.YtghommaokdhjmaaGreatW.PrintLast Gate P PSpec
theorem ff {α : Type} {a b : α} : (if false = true then a else b) = b := rfl
theorem lower_eq (c : Int) : qf82.f c = some (smallP c) := by
 unfold smallP val_small.f qf82.f
 split <;> rfl
theorem upper_eq (c : Int) : qf81.f c = some (largeP c) := by
 unfold largeP val_large.f qf81.f
 split <;> rfl
theorem rdigit_eq (c : Int) : qf108.f c = some (digitP c) := by
 unfold digitP val_digit.f qf108.f
 split <;> rfl
theorem small_iff (c : Int) : smallP c = (decide (97 ≤ c) && decide (c ≤ 122)) := by
 unfold smallP val_small.f
 by_cases h : c ≥ 97
 ·rw [if_pos h, decide_eq_true (show 97 ≤ c from h)]; rfl
 ·rw [if_neg h, decide_eq_false (show ¬ 97 ≤ c from h)]; rfl
theorem large_iff (c : Int) : largeP c = (decide (65 ≤ c) && decide (c ≤ 90)) := by
 unfold largeP val_large.f
 by_cases h : c ≥ 65
 ·rw [if_pos h, decide_eq_true (show 65 ≤ c from h)]; rfl
 ·rw [if_neg h, decide_eq_false (show ¬ 65 ≤ c from h)]; rfl
theorem digit_iff (c : Int) : digitP c = (decide (48 ≤ c) && decide (c ≤ 57)) := by
 unfold digitP val_digit.f
 by_cases h : c ≥ 48
 ·rw [if_pos h, decide_eq_true (show 48 ≤ c from h)]; rfl
 ·rw [if_neg h, decide_eq_false (show ¬ 48 ≤ c from h)]; rfl
theorem let_iff (c : Int) : letP c = (smallP c || (largeP c || (digitP c || decide (c = 95)))) := by
 rw [small_iff, large_iff, digit_iff]
 unfold letP subst_letter.f
 by_cases h1 : 97 ≤ c <;> by_cases h2 : c ≤ 122 <;> by_cases h3 : 65 ≤ c <;> by_cases h4 : c ≤ 90 <;> by_cases h5 : 48 ≤ c <;> by_cases h6 : c ≤ 57 <;>
  simp [h1, h2, h3, h4, h5, h6, BEq.beq] <;> omega
theorem inner_eq (c : Int) : qf83.f c = some (letP c) := by
 unfold qf83.f
 rw [let_iff, lower_eq, upper_eq, rdigit_eq]
 simp only [Option.bind_some]
 cases smallP c <;> cases largeP c <;> cases digitP c <;> simp [BEq.beq]
theorem word_loop (s : ByteArray) (hs : s.size ≤ 1000000) : ∀ (m i : Nat), i + m = s.size → Ev (fun k => qf51.l0 k s i) (allFrom (fun i => letP (bt s i)) m i) := by
 intro m
 induction m with
 | zero =>
  intro i h
  refine Ev.step (fun k => by rw [qf51.l0, if_neg (by omega)]) ?_
  exact Ev.now _
 | succ m ih =>
  intro i h
  refine Ev.step (fun k => by rw [qf51.l0, if_pos (by omega), if_pos (by omega), inner_eq, Option.bind_some, w64 hs (show i < s.size by omega)]) ?_
  rw [allFrom]
  cases letP (bt s i)
  ·simp only [ff, Bool.false_and]; exact Ev.now _
  ·simp only [if_true, Bool.true_and]; exact ih (i + 1) (by omega)
def wordP (s : ByteArray) (large : Bool) : Bool := decide (1 ≤ s.size) && decide (s.size ≤ 24) && (if large then largeP (bt s 0) else smallP (bt s 0)) && varAll s
theorem in_eq (a b c : Int) : qf80.f a b c = some (decide (b ≤ a) && decide (a ≤ c)) := by
 unfold qf80.f
 by_cases h : a ≥ b
 ·rw [if_pos h, decide_eq_true (show b ≤ a from h)]; rfl
 ·rw [if_neg h, decide_eq_false (show ¬ b ≤ a from h)]; rfl
theorem small_large (c : Int) (h : smallP c = true) : largeP c = false := by
 rw [small_iff] at h
 rw [large_iff]
 simp only [Bool.and_eq_true, decide_eq_true_eq] at h
 rw [decide_eq_false (show ¬ c ≤ 90 by omega), Bool.and_false]
theorem ev_word (s : ByteArray) (hs : s.size ≤ 1000000) (large : Bool) : Ev (fun k => qf51.f k s large) (wordP s large) := by
 have jt : Ev (fun k => qf51.j0 k s true) false := Ev.step (fun k => by rw [qf51.j0, if_pos rfl]) (Ev.now _)
 have jf : Ev (fun k => qf51.j0 k s false) (varAll s) := Ev.step (fun k => by rw [qf51.j0, if_neg (by decide)]; rfl) (word_loop s hs s.size 0 (by omega))
 unfold qf51.f
 rw [in_eq]
 unfold wordP
 by_cases h : 1 ≤ s.size ∧ s.size ≤ 24
 ·rw [decide_eq_true (show (1 : Int) ≤ (s.size : Int) by omega), decide_eq_true (show (s.size : Int) ≤ 24 by omega), decide_eq_true h.1, decide_eq_true h.2]
  simp only [Bool.and_self, Option.bind_some, if_true, if_pos (show 0 < (s.size : Int) by omega), upper_eq, lower_eq, Bool.true_and]
  cases large
  ·cases hl : largeP (bt s 0)
   ·simp only [bne_self_eq_false, ff, Bool.false_eq_true, if_false]
    cases smallP (bt s 0)
    ·simp only [Bool.not_false, Bool.false_and]; exact jt
    ·simp only [Bool.not_true, Bool.true_and]; exact jf
   ·have hsm : smallP (bt s 0) = false := by
     cases h2 : smallP (bt s 0)
     ·rfl
     ·rw [small_large _ h2] at hl; cases hl
    simp only [show (false != true) = true from rfl, if_true, hsm, Bool.false_eq_true, if_false, Bool.false_and]; exact jt
  ·cases hl : largeP (bt s 0)
   ·simp only [show (true != false) = true from rfl, if_true, Bool.false_and]; exact jt
   ·simp only [bne_self_eq_false, ff, if_true, Bool.true_and]; exact jf
 ·have hn : (decide ((1 : Int) ≤ (s.size : Int)) && decide ((s.size : Int) ≤ 24)) = false := by
   rw [Bool.and_eq_false_iff, decide_eq_false_iff_not, decide_eq_false_iff_not]; omega
  have hn2 : (decide (1 ≤ s.size) && decide (s.size ≤ 24)) = false := by
   rw [Bool.and_eq_false_iff, decide_eq_false_iff_not, decide_eq_false_iff_not]; omega
  rw [hn, hn2]
  simp only [Option.bind_some, ff, Bool.false_and]; exact jt
theorem word_var (s : ByteArray) : wordP s true = varP s := by
 unfold wordP varP
 rw [if_pos rfl, large_iff]
 simp only [Bool.and_assoc]
theorem allFrom_congr {f g : Nat → Bool} (h : ∀ i, f i = g i) : ∀ m i, allFrom f m i = allFrom g m i
 | 0, _ => rfl
 | m + 1, i => by rw [allFrom, allFrom, h, allFrom_congr h m]
theorem word_sym (s : ByteArray) : wordP s false = symP s := by
 unfold wordP symP varAll
 rw [if_neg (by decide), allFrom_congr (g := symT s) (fun i => by unfold symT; rw [let_iff]; simp only [Bool.or_assoc])]
theorem rplain_loop (s : ByteArray) (hs : s.size ≤ 1000000) (a b : Int) : ∀ (m i : Nat), i + m = s.size → Ev (fun k => qf52.l0 k i a b s) (allFrom (plainT s) m i) := by
 intro m
 induction m with
 | zero =>
  intro i h
  refine Ev.step (fun k => by rw [qf52.l0, if_neg (by omega)]) ?_
  exact Ev.now _
 | succ m ih =>
  intro i h
  have hr := bt_range s i
  refine Ev.step (fun k => by rw [qf52.l0, if_pos (by omega), if_pos (by omega), in_eq, Option.bind_some, w64 hs (show i < s.size by omega), show wrap64 (bt s i) = bt s i by unfold wrap64; omega]) ?_
  rw [allFrom]
  show Ev (fun k => if plainT s i = true then _ else _) _
  cases plainT s i
  ·simp only [ff, Bool.false_and]; exact Ev.now _
  ·simp only [if_true, Bool.true_and]; exact ih (i + 1) (by omega)
theorem ev_value (a b : Int) (s : ByteArray) (hs : s.size ≤ 1000000) : Ev (fun k => qf52.f k a b s) (valP a b s == 0) := by
 have jt : Ev (fun k => qf52.j0 k true a b s) false := Ev.step (fun k => by rw [qf52.j0, if_pos rfl]) (Ev.now _)
 have jf : Ev (fun k => qf52.j0 k false a b s) (allFrom (plainT s) s.size 0) := Ev.step (fun k => by rw [qf52.j0, if_neg (by decide)]; rfl) (rplain_loop s hs a b s.size 0 (by omega))
 have hw := ev_word s hs false
 rw [word_sym] at hw
 have hnil : s.toList = ([] : List UInt8) ↔ s.size = 0 := by
  rw [ByteArray.toList_eq]
  constructor
  ·intro h; have := congrArg List.length h; simpa using this
  ·intro h; exact List.length_eq_zero_iff.1 (by simpa using h)
 unfold qf52.f valP
 by_cases h1 : a = 1
 ·simp only [if_pos h1, in_eq, Option.bind_some]
  by_cases h2 : b ≥ -4611686018427387904
  ·by_cases h3 : b ≤ 4611686018427387904
   ·simp only [decide_eq_true (show (-4611686018427387904 : Int) ≤ b from h2), decide_eq_true h3, Bool.and_self, if_true, if_pos h2, if_pos h3]
    by_cases h4 : s.size = 0
    ·rw [if_pos (hnil.2 h4), h4]; exact Ev.now _
    ·rw [if_neg (fun h => h4 (hnil.1 h)), show ((s.size : Int) == 0) = false from beq_eq_false_iff_ne.2 (by omega)]; exact Ev.now _
   ·simp only [decide_eq_false h3, Bool.and_false, ff, if_pos h2, if_neg h3]; exact Ev.now _
  ·simp only [decide_eq_false (show ¬ (-4611686018427387904 : Int) ≤ b from h2), Bool.false_and, ff, if_neg h2]; exact Ev.now _
 ·simp only [if_neg h1]
  by_cases h2 : a = 2
  ·simp only [if_pos h2]
   by_cases h3 : b = 0
   ·simp only [if_pos h3]
    refine Ev.bind hw ?_
    cases symP s
    ·exact Ev.now _
    ·exact Ev.now _
   ·simp only [if_neg h3]; exact Ev.now _
  ·simp only [if_neg h2]
   by_cases h3 : a = 3
   ·simp only [if_pos h3]
    by_cases h4 : b = 0
    ·simp only [if_pos h4]
     unfold plainP
     by_cases h5 : s.size ≤ 60
     ·rw [decide_eq_false (show ¬ (s.size : Int) > 60 by omega), decide_eq_true h5, Bool.and_true]
      cases h6 : allFrom (plainT s) s.size 0
      ·rw [h6] at jf; exact jf
      ·rw [h6] at jf; exact jf
     ·rw [decide_eq_true (show (s.size : Int) > 60 by omega), decide_eq_false h5, Bool.and_false]; exact jt
    ·simp only [if_neg h4]; exact jt
   ·simp only [if_neg h3]; exact Ev.now _
end Go.Proofs.YtghommaokdhjmaaGreat.SpecB
namespace Go.Proofs.YtghommaokdhjmaaGreat.P
open Go.RowKit Go.Proofs.YtghommaokdhjmaaGreatW.PrintWords Go.Proofs.YtghommaokdhjmaaGreatW.PrintLast Gate
def qf106.f  : Option (List ByteArray) := some (([(⟨#[102, 97, 99, 116]⟩ : ByteArray), (⟨#[114, 117, 108, 101]⟩ : ByteArray), (⟨#[112, 97, 116, 116, 101, 114, 110]⟩ : ByteArray), (⟨#[110, 111, 116]⟩ : ByteArray), (⟨#[97, 110, 100]⟩ : ByteArray), (⟨#[111, 114]⟩ : ByteArray), (⟨#[98, 101, 102, 111, 114, 101]⟩ : ByteArray), (⟨#[111, 110, 99, 101]⟩ : ByteArray), (⟨#[97, 108, 119, 97, 121, 115]⟩ : ByteArray), (⟨#[115, 105, 110, 99, 101]⟩ : ByteArray), (⟨#[100, 114, 111, 112]⟩ : ByteArray)] : List ByteArray))
set_option maxHeartbeats 8000000 in
set_option maxRecDepth 100000 in
theorem qf106.calls  (r : List ByteArray) (w : World) (h : qf106.f  = some r) :
  Calls Tryz.prog 106 #[] w fun e w' => ∃ v0_ : Value, e = .returned (v0_) ∧ Kd.R Kd.string 9 w' w.heap.size (fun _ => True) v0_ r ∧ Below w.heap.size w w' := by
 have HB := Aside0.mk (Below.refl w.heap.size w)
 have H : (some (([(⟨#[102, 97, 99, 116]⟩ : ByteArray), (⟨#[114, 117, 108, 101]⟩ : ByteArray), (⟨#[112, 97, 116, 116, 101, 114, 110]⟩ : ByteArray), (⟨#[110, 111, 116]⟩ : ByteArray), (⟨#[97, 110, 100]⟩ : ByteArray), (⟨#[111, 114]⟩ : ByteArray), (⟨#[98, 101, 102, 111, 114, 101]⟩ : ByteArray), (⟨#[111, 110, 99, 101]⟩ : ByteArray), (⟨#[97, 108, 119, 97, 121, 115]⟩ : ByteArray), (⟨#[115, 105, 110, 99, 101]⟩ : ByteArray), (⟨#[100, 114, 111, 112]⟩ : ByteArray)] : List ByteArray))) = some r := h
 clear h
 obtain ⟨y723, hy723⟩ : ∃ y_ : List ByteArray, y_ = (([(⟨#[102, 97, 99, 116]⟩ : ByteArray), (⟨#[114, 117, 108, 101]⟩ : ByteArray), (⟨#[112, 97, 116, 116, 101, 114, 110]⟩ : ByteArray), (⟨#[110, 111, 116]⟩ : ByteArray), (⟨#[97, 110, 100]⟩ : ByteArray), (⟨#[111, 114]⟩ : ByteArray), (⟨#[98, 101, 102, 111, 114, 101]⟩ : ByteArray), (⟨#[111, 110, 99, 101]⟩ : ByteArray), (⟨#[97, 108, 119, 97, 121, 115]⟩ : ByteArray), (⟨#[115, 105, 110, 99, 101]⟩ : ByteArray), (⟨#[100, 114, 111, 112]⟩ : ByteArray)] : List ByteArray)) := ⟨_, rfl⟩
 replace H : (some y723) = some r := by first | (rw [hy723]; with_reducible exact H) | (have H2_ := (Option.bind_some _ _).symm.trans H; rw [hy723]; with_reducible exact H2_) | (have H2_ := (Option.bind_some _ _).symm.trans H; with_reducible exact H2_) | with_reducible exact H | (rw [hy723]; exact H) | exact H
 have Ny723 := Aside0.mk hy723
 clear hy723
 obtain rfl := Option.some.inj H
 go_enter Tryz.func106, Tryz.ntmps106
 go_wp2_with (first | ((with_reducible refine gate_dst (N := 1) rfl ?_); refine Kd.R_lit Kd.string _ 9 ?hg (N := 1) ?hd (xs := ([(⟨#[102, 97, 99, 116]⟩ : ByteArray), (⟨#[114, 117, 108, 101]⟩ : ByteArray), (⟨#[112, 97, 116, 116, 101, 114, 110]⟩ : ByteArray), (⟨#[110, 111, 116]⟩ : ByteArray), (⟨#[97, 110, 100]⟩ : ByteArray), (⟨#[111, 114]⟩ : ByteArray), (⟨#[98, 101, 102, 111, 114, 101]⟩ : ByteArray), (⟨#[111, 110, 99, 101]⟩ : ByteArray), (⟨#[97, 108, 119, 97, 121, 115]⟩ : ByteArray), (⟨#[115, 105, 110, 99, 101]⟩ : ByteArray), (⟨#[100, 114, 111, 112]⟩ : ByteArray)] : List ByteArray)) (inner := [.string (⟨#[102, 97, 99, 116]⟩ : ByteArray), .string (⟨#[114, 117, 108, 101]⟩ : ByteArray), .string (⟨#[112, 97, 116, 116, 101, 114, 110]⟩ : ByteArray), .string (⟨#[110, 111, 116]⟩ : ByteArray), .string (⟨#[97, 110, 100]⟩ : ByteArray), .string (⟨#[111, 114]⟩ : ByteArray), .string (⟨#[98, 101, 102, 111, 114, 101]⟩ : ByteArray), .string (⟨#[111, 110, 99, 101]⟩ : ByteArray), .string (⟨#[97, 108, 119, 97, 121, 115]⟩ : ByteArray), .string (⟨#[115, 105, 110, 99, 101]⟩ : ByteArray), .string (⟨#[100, 114, 111, 112]⟩ : ByteArray)]) (ok := fun _ => True) (okp := fun _ => True) ?hr ?hp (fun _ hk => hk) trivial (Below.refl _ _) (Nat.le_refl _) (by simp) ?_; (case hd => rfl); (case hg => rfl); (case hr => first | (go_simp; done) | (go_simp; rfl)); (case hp => exact (Reps.one (show Kd.M Kd.string _ _ _ (⟨#[102, 97, 99, 116]⟩ : ByteArray) [.string (⟨#[102, 97, 99, 116]⟩ : ByteArray)] from rfl) (Reps.one (show Kd.M Kd.string _ _ _ (⟨#[114, 117, 108, 101]⟩ : ByteArray) [.string (⟨#[114, 117, 108, 101]⟩ : ByteArray)] from rfl) (Reps.one (show Kd.M Kd.string _ _ _ (⟨#[112, 97, 116, 116, 101, 114, 110]⟩ : ByteArray) [.string (⟨#[112, 97, 116, 116, 101, 114, 110]⟩ : ByteArray)] from rfl) (Reps.one (show Kd.M Kd.string _ _ _ (⟨#[110, 111, 116]⟩ : ByteArray) [.string (⟨#[110, 111, 116]⟩ : ByteArray)] from rfl) (Reps.one (show Kd.M Kd.string _ _ _ (⟨#[97, 110, 100]⟩ : ByteArray) [.string (⟨#[97, 110, 100]⟩ : ByteArray)] from rfl) (Reps.one (show Kd.M Kd.string _ _ _ (⟨#[111, 114]⟩ : ByteArray) [.string (⟨#[111, 114]⟩ : ByteArray)] from rfl) (Reps.one (show Kd.M Kd.string _ _ _ (⟨#[98, 101, 102, 111, 114, 101]⟩ : ByteArray) [.string (⟨#[98, 101, 102, 111, 114, 101]⟩ : ByteArray)] from rfl) (Reps.one (show Kd.M Kd.string _ _ _ (⟨#[111, 110, 99, 101]⟩ : ByteArray) [.string (⟨#[111, 110, 99, 101]⟩ : ByteArray)] from rfl) (Reps.one (show Kd.M Kd.string _ _ _ (⟨#[97, 108, 119, 97, 121, 115]⟩ : ByteArray) [.string (⟨#[97, 108, 119, 97, 121, 115]⟩ : ByteArray)] from rfl) (Reps.one (show Kd.M Kd.string _ _ _ (⟨#[115, 105, 110, 99, 101]⟩ : ByteArray) [.string (⟨#[115, 105, 110, 99, 101]⟩ : ByteArray)] from rfl) (Reps.one (show Kd.M Kd.string _ _ _ (⟨#[100, 114, 111, 112]⟩ : ByteArray) [.string (⟨#[100, 114, 111, 112]⟩ : ByteArray)] from rfl) (Reps.none _ _))))))))))))); intro v724 w1 ho2 hb hg_ hnew_; clear hg_ hnew_; (first | rw [← Ny723.out] at ho2 | (simp only [Int.reduceToNat] at ho2; rw [← Ny723.out] at ho2)); have n0_ := Aside0.mk (Kd.R_lower ho2 (below_size bB0)); have n1_ := Aside0.mk (below_step bB0 hb); clear HB; have HO725 := n0_; have HB := n1_; clear n0_ n1_; clear hb ho2))
 go_ret
 exact ⟨_, eW, by (with_reducible repeat (first | apply Kd.R_alloc | apply Kd.R_drewN | apply Kd.R_drew)); exact HO725.out, bB0⟩
def qf72.l0 : Nat → ByteArray → List ByteArray → Int → Option (Bool)
 | 0, _, _, _ => none
 | k + 1, x0, x3, x4 => if x4 < (x3.length : Int) then (if 0 ≤ x4 then (if (rdOf ByteArray.empty x3 x4).toList = x0.toList then (some false) else (qf72.l0 k x0 x3 (wrap64 (x4 + 1)))) else (none)) else (some true)
def qf72.f (k : Nat) (a0 : ByteArray) : Option (Bool) := (qf51.f k a0 false).bind fun t726 => (if t726 = true then ((qf106.f).bind fun t727 => (qf72.l0 k a0 t727 0)) else (some false))
set_option maxHeartbeats 8000000 in
set_option maxRecDepth 100000 in
theorem qf72.calls (k : Nat) (a0 : ByteArray) (r : Bool) (w : World) (h : qf72.f k a0 = some r) :
  Calls Tryz.prog 72 #[.string a0] w fun e w' => e = .returned (.bool r) ∧ Below w.heap.size w w' := by
 have HB := Aside0.mk (Below.refl w.heap.size w)
 have H : ((qf51.f k a0 false).bind fun t726 => (if t726 = true then ((qf106.f).bind fun t727 => (qf72.l0 k a0 t727 0)) else (some false))) = some r := h
 clear h
 replace H := Option.bind_eq_some_iff.mp H
 obtain ⟨t726, A20, H⟩ := H
 replace H : (if t726 = true then ((qf106.f).bind fun t727 => (qf72.l0 k a0 t727 0)) else (some false)) = some r := H
 have A2 := Aside0.mk A20
 clear A20
 by_cases c3 : t726 = true
 ·subst c3
  have H1 : ((qf106.f).bind fun t727 => (qf72.l0 k a0 t727 0)) = some r := by rw [if_pos rfl] at H; exact H
  clear H
  have H := H1
  clear H1
  replace H := Option.bind_eq_some_iff.mp H
  obtain ⟨t727, A40, H⟩ := H
  replace H : (qf72.l0 k a0 t727 0) = some r := H
  have A4 := Aside0.mk A40
  clear A40
  have H' := Aside0.mk H
  clear H
  go_enter Tryz.func72, Tryz.ntmps72
  go_wp2_with (first | ((with_reducible refine gate_callee (f := 51) rfl ?_); refine goesL_ (some 6) rfl rfl Tryz.func51 (by kernel_rfl) rfl #[.string a0, .bool false] rfl aG ?_; (with_reducible refine (qf51.calls k a0 false true _ A2.out).mono ?_); rintro e w' ⟨rfl, ⟨nd, rfl⟩⟩; refine ⟨_, rfl, ?_⟩) | ((with_reducible refine gate_callee (f := 106) rfl ?_); refine goesL_ (some 8) rfl rfl Tryz.func106 (by kernel_rfl) rfl #[] rfl aG ?_; (with_reducible refine (qf106.calls  t727 _ A4.out).mono ?_); rintro e w5 ⟨v728, rfl, ho0, hb⟩; refine ⟨_, rfl, ?_⟩; have n0_ := Aside0.mk (Kd.R_lower ho0 (below_size bB0)); have n1_ := Aside0.mk (below_step bB0 hb); clear HB; have HO729 := n0_; have HB := n1_; clear n0_ n1_; (try clear hb); (try clear hb2); (try clear hk); (try clear hi); (try clear ho0)))
  go_loopg [4] k (fun kq v4 w' => ∃ (x4_1 : Int), v4 = .int .i64 x4_1 ∧ Aside0 (qf72.l0 kq a0 t727 x4_1 = some r) ∧ Aside0 (kq ≤ k) ∧ Aside0 (Kd.R Kd.string 9 w' w.heap.size (fun _ => True) v728 t727) ∧ Aside0 (Below w.heap.size w w'))
  case atStart => exact ⟨(0), (by first | rfl | (simp; done) | (simp [*]; done)), H', ⟨Nat.le_refl _⟩, ⟨by (with_reducible repeat (first | apply Kd.R_alloc | apply Kd.R_drewN | apply Kd.R_drew)); exact HO729.out⟩, ⟨bB0⟩⟩
  case round =>
   clear H'
   (try clear c1); (try clear p2); (try clear c3); (try clear c5)
   obtain ⟨x4_1, rfl, HA, HK1, HO_3, HB⟩ := hrel
   cases gk with
   | zero => exact absurd HA.out (by simp [qf72.l0])
   | succ k1 =>
    have H := HA.out
    clear HA
    simp only [qf72.l0] at H
    by_cases c6 : x4_1 < (t727.length : Int)
    ·rw [if_pos c6] at H
     have c6b0 : decide (x4_1 < (t727.length : Int)) = true := decide_eq_true c6
     clear c6
     by_cases c7 : 0 ≤ x4_1
     ·rw [if_pos c7] at H
      have c7b0 : decide (0 ≤ x4_1) = true := decide_eq_true c7
      clear c7
      by_cases c8 : (rdOf ByteArray.empty t727 x4_1).toList = a0.toList
      ·rw [if_pos c8] at H
       have c8b0 : ((rdOf ByteArray.empty t727 x4_1).toList == a0.toList) = true := beq_iff_eq.mpr c8
       have c8b1 : ((rdOf ByteArray.empty t727 x4_1).toList != a0.toList) = false := bne_eq_false_iff_eq.mpr c8
       clear c8
       obtain rfl := Option.some.inj H
       obtain ⟨Ao9, co9, eo9⟩ := Kd.R_slice HO_3.out
       subst eo9
       have p730 : 0 ≤ (x4_1 : Int) := of_decide_eq_true (by first | (with_reducible assumption) | assumption)
       have q730 : x4_1 < (t727.length : Int) := of_decide_eq_true (by first | (with_reducible assumption) | assumption)
       obtain ⟨ad730, e730, hx730_0⟩ := Kd.at_string (Kd.R_reads' HO_3.out).2.2 x4_1 p730 q730
       cases e730
       replace p730 := eq_true p730
       replace q730 := eq_true q730
       go_wp2
       go_ret
       exact ⟨eW, bB0⟩
      ·rw [if_neg c8] at H
       have c8b0 : ((rdOf ByteArray.empty t727 x4_1).toList == a0.toList) = false := beq_eq_false_iff_ne.mpr c8
       have c8b1 : ((rdOf ByteArray.empty t727 x4_1).toList != a0.toList) = true := bne_iff_ne.mpr c8
       have H' := Aside0.mk H
       clear H
       obtain ⟨Ao10, co10, eo10⟩ := Kd.R_slice HO_3.out
       subst eo10
       have p730 : 0 ≤ (x4_1 : Int) := of_decide_eq_true (by first | (with_reducible assumption) | assumption)
       have q730 : x4_1 < (t727.length : Int) := of_decide_eq_true (by first | (with_reducible assumption) | assumption)
       obtain ⟨ad730, e730, hx730_0⟩ := Kd.at_string (Kd.R_reads' HO_3.out).2.2 x4_1 p730 q730
       cases e730
       replace p730 := eq_true p730
       replace q730 := eq_true q730
       go_wp2
       go_roundg k1
       case measure => have := HK1.out; omega
       case rel => exact ⟨(wrap64 (x4_1 + 1)), (by first | rfl | (simp; done) | (simp [*]; done)), H', ⟨by have := HK1.out; omega⟩, ⟨by (with_reducible repeat (first | apply Kd.R_alloc | apply Kd.R_drewN | apply Kd.R_drew)); exact HO_3.out⟩, ⟨bB0⟩⟩
     ·rw [if_neg c7] at H
      exact absurd H (by simp)
    ·rw [if_neg c6] at H
     have c6b0 : decide (x4_1 < (t727.length : Int)) = false := decide_eq_false c6
     clear c6
     obtain rfl := Option.some.inj H
     obtain ⟨Ao11, co11, eo11⟩ := Kd.R_slice HO_3.out
     subst eo11
     go_wp2
     go_ret
     exact ⟨eW, bB0⟩
 ·replace c3 := Bool.eq_false_iff.mpr c3
  subst c3
  have H1 : (some false) = some r := by rw [if_neg (show ¬ (false = true) by decide)] at H; exact H
  clear H
  have H := H1
  clear H1
  obtain rfl := Option.some.inj H
  go_enter Tryz.func72, Tryz.ntmps72
  go_wp2_with (first | ((with_reducible refine gate_callee (f := 51) rfl ?_); refine goesL_ (some 6) rfl rfl Tryz.func51 (by kernel_rfl) rfl #[.string a0, .bool false] rfl aG ?_; (with_reducible refine (qf51.calls k a0 false false _ A2.out).mono ?_); rintro e w' ⟨rfl, ⟨nd, rfl⟩⟩; refine ⟨_, rfl, ?_⟩))
  go_ret
  exact ⟨eW, bB0⟩
mutual
def qf45.j0 : Nat → Bool → ByteArray → List (S64) → Option (Bool)
 | 0, _, _, _ => none
 | k + 1, x13, x732000, x732001 => if x13 = true then (some false) else (qf45.l0 k 0 x732000 x732001)
def qf45.l0 : Nat → Int → ByteArray → List (S64) → Option (Bool)
 | 0, _, _, _ => none
 | k + 1, x3, x732000, x732001 => if x3 < (x732001.length : Int) then (if 0 ≤ x3 then ((qf52.f k ((rd_T64 x732001 x3).f0) ((rd_T64 x732001 x3).f1) ((rd_T64 x732001 x3).f2)).bind fun t734 => (if t734 = true then (qf45.l0 k (wrap64 (x3 + 1)) x732000 x732001) else (some false))) else (none)) else (some true)
end
def qf45.f (k : Nat) (a0_0 : ByteArray) (l0_1 : List (S64)) : Option (Bool) := (qf72.f k a0_0).bind fun t732 => (if t732 = true then (qf45.j0 k (decide ((l0_1.length : Int) > 5)) a0_0 l0_1) else (qf45.j0 k true a0_0 l0_1))
set_option maxHeartbeats 8000000 in
set_option maxRecDepth 100000 in
theorem qf45.calls (k : Nat) (a0_0 : ByteArray) (A0_1 : Option Addr) (c0_1 : Nat) (l0_1 : List (S64)) (r : Bool) (w : World) (hr0_1 : Kd.C k64 w A0_1 l0_1.length l0_1) (hc0_1 : l0_1.length ≤ c0_1) (h : qf45.f k a0_0 l0_1 = some r) :
  Calls Tryz.prog 45 #[.agg #[.string a0_0, .slice A0_1 l0_1.length c0_1]] w fun e w' => e = .returned (.bool r) ∧ Below w.heap.size w w' := by
 have hu58 := Tryz.underlying58
 have hu64 := Tryz.underlying64
 have HR0_1 := Aside0.mk hr0_1
 have HC0_1 := Aside0.mk hc0_1
 clear hr0_1 hc0_1
 have HB := Aside0.mk (Below.refl w.heap.size w)
 have H : ((qf72.f k a0_0).bind fun t732 => (if t732 = true then (qf45.j0 k (decide ((l0_1.length : Int) > 5)) a0_0 l0_1) else (qf45.j0 k true a0_0 l0_1))) = some r := h
 clear h
 have HC2 := Aside0.mk H
 clear H
 go_enter Tryz.func45, Tryz.ntmps45
 go_upto_region 1 with (first | ((with_reducible refine gate_dst (N := 1) rfl ?_); (try (refine gate_guard (by rfl) ?_; dsimp only)); refine bE (N := 1) (cs := #[.string a0_0, .slice A0_1 l0_1.length c0_1]) (t := 58) ?_; intro gb731 hg w3 hbox hb; have n0_ := Aside0.mk (below_step bB0 hb); have n1_ := Aside0.mk (hbox); have n2_ := Aside0.mk ((by rw [hg]; exact (below_size bB0) : w.heap.size ≤ gb731)); have n3_ := Aside0.mk ((by rw [hg]; exact (below_size bB0) : w.heap.size ≤ gb731)); clear HB; have HB := n0_; have BK731 := n1_; have GW731 := n2_; have GE731 := n3_; clear n0_ n1_ n2_ n3_; clear hb hbox hg))
 (try simp only [Act.put, List.setIfInBounds_toArray, List.set_cons_zero, List.set_cons_succ])
 go_cut [13] (fun v13 wc => ∃ (kq : Nat) (x13_1 : Bool), v13 = .bool x13_1 ∧ Aside0 (qf45.j0 kq x13_1 a0_0 l0_1 = some r) ∧ Aside0 (kq ≤ k) ∧ Aside0 (wc.heap[gb731]? = some (.cells #[.string a0_0, (.slice A0_1 l0_1.length c0_1)] 58 (0, 0))) ∧ Aside0 (Below w.heap.size w wc))
 case first =>
  have H := HC2.out
  clear HC2
  replace H := Option.bind_eq_some_iff.mp H
  obtain ⟨t732, A40, H⟩ := H
  replace H : (if t732 = true then (qf45.j0 k (decide ((l0_1.length : Int) > 5)) a0_0 l0_1) else (qf45.j0 k true a0_0 l0_1)) = some r := H
  have A4 := Aside0.mk A40
  clear A40
  by_cases c5 : t732 = true
  ·subst c5
   have H1 : (qf45.j0 k (decide ((l0_1.length : Int) > 5)) a0_0 l0_1) = some r := by rw [if_pos rfl] at H; exact H
   clear H
   have H := H1
   clear H1
   have H' := Aside0.mk H
   clear H
   have hcz6_0 : w3.cell? ⟨gb731, 0, none⟩ = some (.string a0_0) := (blk_cell BK731.out 0).trans rfl
   have hcz6_1 : w3.cell? ⟨gb731, 1, none⟩ = some (.slice A0_1 l0_1.length c0_1) := (blk_cell BK731.out 1).trans rfl
   have hfz6_0 := blk_frozen BK731.out 0
   have hfz6_1 := blk_frozen BK731.out 1
   go_wp2_with (first | ((with_reducible refine gate_callee (f := 72) rfl ?_); refine goesL_ (some 6) rfl rfl Tryz.func72 (by kernel_rfl) rfl #[.string a0_0] rfl aG ?_; (with_reducible refine (qf72.calls k a0_0 true _ A4.out).mono ?_); rintro e w7 ⟨rfl, hb⟩; refine ⟨_, rfl, ?_⟩; have n0_ := Aside0.mk (blk_below (g := gb731) (o := .cells #[.string a0_0, .slice A0_1 l0_1.length c0_1] 58 (0, 0)) (by refine bk ?_; exact BK731.out) hb); have n1_ := Aside0.mk (below_step (bB1 GE731.out) hb); clear BK731; clear HB; have BK731 := n0_; have HB := n1_; clear n0_ n1_; (try clear hb); (try clear hb2); (try clear hk); (try clear hi); have hcz8_0 : w7.cell? ⟨gb731, 0, none⟩ = some (.string a0_0) := (blk_cell BK731.out 0).trans rfl; have hcz8_1 : w7.cell? ⟨gb731, 1, none⟩ = some (.slice A0_1 l0_1.length c0_1) := (blk_cell BK731.out 1).trans rfl; have hfz8_0 := blk_frozen BK731.out 0; have hfz8_1 := blk_frozen BK731.out 1))
   go_meet
   case rel => exact ⟨_, (decide ((l0_1.length : Int) > 5)), (by first | rfl | (simp; done) | (simp [*]; done)), H', ⟨by first | omega | exact Nat.le_refl _⟩, ⟨by refine bk ?_; exact BK731.out⟩, ⟨(bB1 GE731.out)⟩⟩
  ·replace c5 := Bool.eq_false_iff.mpr c5
   subst c5
   have H1 : (qf45.j0 k true a0_0 l0_1) = some r := by rw [if_neg (show ¬ (false = true) by decide)] at H; exact H
   clear H
   have H := H1
   clear H1
   have H' := Aside0.mk H
   clear H
   have hcz9_0 : w3.cell? ⟨gb731, 0, none⟩ = some (.string a0_0) := (blk_cell BK731.out 0).trans rfl
   have hcz9_1 : w3.cell? ⟨gb731, 1, none⟩ = some (.slice A0_1 l0_1.length c0_1) := (blk_cell BK731.out 1).trans rfl
   have hfz9_0 := blk_frozen BK731.out 0
   have hfz9_1 := blk_frozen BK731.out 1
   go_wp2_with (first | ((with_reducible refine gate_callee (f := 72) rfl ?_); refine goesL_ (some 6) rfl rfl Tryz.func72 (by kernel_rfl) rfl #[.string a0_0] rfl aG ?_; (with_reducible refine (qf72.calls k a0_0 false _ A4.out).mono ?_); rintro e w10 ⟨rfl, hb⟩; refine ⟨_, rfl, ?_⟩; have n0_ := Aside0.mk (blk_below (g := gb731) (o := .cells #[.string a0_0, .slice A0_1 l0_1.length c0_1] 58 (0, 0)) (by refine bk ?_; exact BK731.out) hb); have n1_ := Aside0.mk (below_step (bB1 GE731.out) hb); clear BK731; clear HB; have BK731 := n0_; have HB := n1_; clear n0_ n1_; (try clear hb); (try clear hb2); (try clear hk); (try clear hi)))
   go_meet
   case rel => exact ⟨_, (true), (by first | rfl | (simp; done) | (simp [*]; done)), H', ⟨by first | omega | exact Nat.le_refl _⟩, ⟨by refine bk ?_; exact BK731.out⟩, ⟨(bB1 GE731.out)⟩⟩
 case rest =>
  clear HC2
  (try clear p2); (try clear c4); (try clear c5); (try clear c7); (try clear hcz6_0); (try clear hcz6_1); (try clear hcz8_0); (try clear hcz8_1); (try clear hcz9_0); (try clear hcz9_1); (try clear hfz6_0); (try clear hfz6_1); (try clear hfz8_0); (try clear hfz8_1); (try clear hfz9_0); (try clear hfz9_1)
  obtain ⟨kq, x13_1, rfl, HA, HJ1, BK731, HB⟩ := hcut
  cases kq with
  | zero => exact absurd HA.out (by simp [qf45.j0])
  | succ kj1 =>
   have H := HA.out
   clear HA
   simp only [qf45.j0] at H
   by_cases c11 : x13_1 = true
   ·subst c11
    have H1 : (some false) = some r := by rw [if_pos rfl] at H; exact H
    clear H
    have H := H1
    clear H1
    obtain rfl := Option.some.inj H
    go_wp2
    go_ret
    exact ⟨eW, (bB1 GE731.out)⟩
   ·replace c11 := Bool.eq_false_iff.mpr c11
    subst c11
    have H1 : (qf45.l0 kj1 0 a0_0 l0_1) = some r := by rw [if_neg (show ¬ (false = true) by decide)] at H; exact H
    clear H
    have H := H1
    clear H1
    have H' := Aside0.mk H
    clear H
    go_wp2
    go_loopg [3] kj1 (fun kq v3 w' => ∃ (x3_2 : Int), v3 = .int .i64 x3_2 ∧ Aside0 (qf45.l0 kq x3_2 a0_0 l0_1 = some r) ∧ Aside0 (kq ≤ kj1) ∧ Aside0 (w'.heap[gb731]? = some (.cells #[.string a0_0, (.slice A0_1 l0_1.length c0_1)] 58 (0, 0))) ∧ Aside0 (Below w.heap.size w w'))
    case atStart => exact ⟨(0), (by first | rfl | (simp; done) | (simp [*]; done)), H', ⟨Nat.le_refl _⟩, ⟨by refine bk ?_; exact BK731.out⟩, ⟨(bB1 GE731.out)⟩⟩
    case round =>
     clear H'
     (try clear c1); (try clear p2); (try clear c4); (try clear c5); (try clear c7); (try clear c11); (try clear hcz6_0); (try clear hcz6_1); (try clear hcz8_0); (try clear hcz8_1); (try clear hcz9_0); (try clear hcz9_1); (try clear hfz6_0); (try clear hfz6_1); (try clear hfz8_0); (try clear hfz8_1); (try clear hfz9_0); (try clear hfz9_1); (try clear p2)
     obtain ⟨x3_2, rfl, HA, HK2, BK731, HB⟩ := hrel
     cases gk with
     | zero => exact absurd HA.out (by simp [qf45.l0])
     | succ k2 =>
      have H := HA.out
      clear HA
      simp only [qf45.l0] at H
      by_cases c12 : x3_2 < (l0_1.length : Int)
      ·rw [if_pos c12] at H
       have c12b0 : decide (x3_2 < (l0_1.length : Int)) = true := decide_eq_true c12
       clear c12
       by_cases c13 : 0 ≤ x3_2
       ·rw [if_pos c13] at H
        have c13b0 : decide (0 ≤ x3_2) = true := decide_eq_true c13
        clear c13
        replace H := Option.bind_eq_some_iff.mp H
        obtain ⟨t734, A140, H⟩ := H
        replace H : (if t734 = true then (qf45.l0 k2 (wrap64 (x3_2 + 1)) a0_0 l0_1) else (some false)) = some r := H
        have A14 := Aside0.mk A140
        clear A140
        by_cases c15 : t734 = true
        ·subst c15
         have H1 : (qf45.l0 k2 (wrap64 (x3_2 + 1)) a0_0 l0_1) = some r := by rw [if_pos rfl] at H; exact H
         clear H
         have H := H1
         clear H1
         have H' := Aside0.mk H
         clear H
         have hcz16_0 : wr.cell? ⟨gb731, 0, none⟩ = some (.string a0_0) := (blk_cell BK731.out 0).trans rfl
         have hcz16_1 : wr.cell? ⟨gb731, 1, none⟩ = some (.slice A0_1 l0_1.length c0_1) := (blk_cell BK731.out 1).trans rfl
         have hfz16_0 := blk_frozen BK731.out 0
         have hfz16_1 := blk_frozen BK731.out 1
         have p733 : 0 ≤ (x3_2 : Int) := of_decide_eq_true (by first | (with_reducible assumption) | assumption)
         have q733 : x3_2 < (l0_1.length : Int) := of_decide_eq_true (by first | (with_reducible assumption) | assumption)
         obtain ⟨ad733, e733, hx733_0, hx733_1, hx733_2⟩ := at_T64 HR0_1.out x3_2 p733 q733
         cases e733
         replace hx733_0 := mvc HB.out hx733_0
         replace hx733_1 := mvc HB.out hx733_1
         replace hx733_2 := mvc HB.out hx733_2
         replace p733 := eq_true p733
         replace q733 := eq_true q733
         go_wp2_with (first | ((with_reducible refine gate_callee (f := 52) rfl ?_); refine goesL_ (some 26) rfl rfl Tryz.func52 (by kernel_rfl) rfl #[.agg #[.int .i64 ((rd_T64 l0_1 x3_2).f0), .int .i64 ((rd_T64 l0_1 x3_2).f1), .string ((rd_T64 l0_1 x3_2).f2)]] rfl aG ?_; (with_reducible refine (qf52.calls k2 ((rd_T64 l0_1 x3_2).f0) ((rd_T64 l0_1 x3_2).f1) ((rd_T64 l0_1 x3_2).f2) true _ A14.out).mono ?_); rintro e w17 ⟨rfl, hb⟩; refine ⟨_, rfl, ?_⟩; have n0_ := Aside0.mk (blk_below (g := gb731) (o := .cells #[.string a0_0, .slice (some ad733) l0_1.length c0_1] 58 (0, 0)) (by refine bk ?_; exact BK731.out) hb); have n1_ := Aside0.mk (below_step (bB1 GE731.out) hb); clear BK731; clear HB; have BK731 := n0_; have HB := n1_; clear n0_ n1_; (try clear hb); (try clear hb2); (try clear hk); (try clear hi)))
         go_roundg k2
         case measure => have := HJ1.out; have := HK2.out; omega
         case rel => exact ⟨(wrap64 (x3_2 + 1)), (by first | rfl | (simp; done) | (simp [*]; done)), H', ⟨by have := HJ1.out; have := HK2.out; omega⟩, ⟨by refine bk ?_; exact BK731.out⟩, ⟨(bB1 GE731.out)⟩⟩
        ·replace c15 := Bool.eq_false_iff.mpr c15
         subst c15
         have H1 : (some false) = some r := by rw [if_neg (show ¬ (false = true) by decide)] at H; exact H
         clear H
         have H := H1
         clear H1
         obtain rfl := Option.some.inj H
         have hcz18_0 : wr.cell? ⟨gb731, 0, none⟩ = some (.string a0_0) := (blk_cell BK731.out 0).trans rfl
         have hcz18_1 : wr.cell? ⟨gb731, 1, none⟩ = some (.slice A0_1 l0_1.length c0_1) := (blk_cell BK731.out 1).trans rfl
         have hfz18_0 := blk_frozen BK731.out 0
         have hfz18_1 := blk_frozen BK731.out 1
         have p733 : 0 ≤ (x3_2 : Int) := of_decide_eq_true (by first | (with_reducible assumption) | assumption)
         have q733 : x3_2 < (l0_1.length : Int) := of_decide_eq_true (by first | (with_reducible assumption) | assumption)
         obtain ⟨ad733, e733, hx733_0, hx733_1, hx733_2⟩ := at_T64 HR0_1.out x3_2 p733 q733
         cases e733
         replace hx733_0 := mvc HB.out hx733_0
         replace hx733_1 := mvc HB.out hx733_1
         replace hx733_2 := mvc HB.out hx733_2
         replace p733 := eq_true p733
         replace q733 := eq_true q733
         go_wp2_with (first | ((with_reducible refine gate_callee (f := 52) rfl ?_); refine goesL_ (some 26) rfl rfl Tryz.func52 (by kernel_rfl) rfl #[.agg #[.int .i64 ((rd_T64 l0_1 x3_2).f0), .int .i64 ((rd_T64 l0_1 x3_2).f1), .string ((rd_T64 l0_1 x3_2).f2)]] rfl aG ?_; (with_reducible refine (qf52.calls k2 ((rd_T64 l0_1 x3_2).f0) ((rd_T64 l0_1 x3_2).f1) ((rd_T64 l0_1 x3_2).f2) false _ A14.out).mono ?_); rintro e w19 ⟨rfl, hb⟩; refine ⟨_, rfl, ?_⟩; have n0_ := Aside0.mk (blk_below (g := gb731) (o := .cells #[.string a0_0, .slice (some ad733) l0_1.length c0_1] 58 (0, 0)) (by refine bk ?_; exact BK731.out) hb); have n1_ := Aside0.mk (below_step (bB1 GE731.out) hb); clear BK731; clear HB; have BK731 := n0_; have HB := n1_; clear n0_ n1_; (try clear hb); (try clear hb2); (try clear hk); (try clear hi)))
         go_ret
         exact ⟨eW, (bB1 GE731.out)⟩
       ·rw [if_neg c13] at H
        exact absurd H (by simp)
      ·rw [if_neg c12] at H
       have c12b0 : decide (x3_2 < (l0_1.length : Int)) = false := decide_eq_false c12
       clear c12
       obtain rfl := Option.some.inj H
       have hcz20_0 : wr.cell? ⟨gb731, 0, none⟩ = some (.string a0_0) := (blk_cell BK731.out 0).trans rfl
       have hcz20_1 : wr.cell? ⟨gb731, 1, none⟩ = some (.slice A0_1 l0_1.length c0_1) := (blk_cell BK731.out 1).trans rfl
       have hfz20_0 := blk_frozen BK731.out 0
       have hfz20_1 := blk_frozen BK731.out 1
       go_wp2
       go_ret
       exact ⟨eW, (bB1 GE731.out)⟩
def qf18.l0 : Nat → List (S58) → Int → Option (Int)
 | 0, _, _ => none
 | k + 1, x0, x3 => if x3 < (x0.length : Int) then (if 0 ≤ x3 then ((qf45.f k ((rd_T58 x0 x3).f0) ((rd_T58 x0 x3).f1)).bind fun t736 => (if t736 = true then (qf18.l0 k x0 (wrap64 (x3 + 1))) else (some 1))) else (none)) else (some 0)
def qf18.f (k : Nat) (l0 : List (S58)) : Option (Int) := if (l0.length : Int) > 200 then (some 2) else (qf18.l0 k l0 0)
set_option maxHeartbeats 8000000 in
set_option maxRecDepth 100000 in
theorem qf18.calls (k : Nat) (A0 : Option Addr) (c0 : Nat) (l0 : List (S58)) (r : Int) (w : World) (hr0 : Kd.C k58 w A0 l0.length l0) (hc0 : l0.length ≤ c0) (h : qf18.f k l0 = some r) :
  Calls Tryz.prog 18 #[.slice A0 l0.length c0] w fun e w' => e = .returned (.int .i64 r) ∧ Below w.heap.size w w' := by
 have hu58 := Tryz.underlying58
 have HR0 := Aside0.mk hr0
 have HC0 := Aside0.mk hc0
 clear hr0 hc0
 have HB := Aside0.mk (Below.refl w.heap.size w)
 have H : (if (l0.length : Int) > 200 then (some 2) else (qf18.l0 k l0 0)) = some r := h
 clear h
 by_cases c2 : (l0.length : Int) > 200
 ·rw [if_pos c2] at H
  have c2b0 : decide (200 < (l0.length : Int)) = true := decide_eq_true c2
  have c2b1 : decide (200 < l0.length) = true := decide_eq_true (by omega)
  clear c2
  obtain rfl := Option.some.inj H
  go_enter Tryz.func18, Tryz.ntmps18
  go_wp2
  go_ret
  exact ⟨eW, bB0⟩
 ·rw [if_neg c2] at H
  have c2b0 : decide (200 < (l0.length : Int)) = false := decide_eq_false c2
  have c2b1 : decide (200 < l0.length) = false := decide_eq_false (by omega)
  clear c2
  have H' := Aside0.mk H
  clear H
  go_enter Tryz.func18, Tryz.ntmps18
  go_wp2
  go_loopg [3] k (fun kq v3 w' => ∃ (x3_1 : Int), v3 = .int .i64 x3_1 ∧ Aside0 (qf18.l0 kq l0 x3_1 = some r) ∧ Aside0 (kq ≤ k) ∧ Aside0 (Below w.heap.size w w'))
  case atStart => exact ⟨(0), (by first | rfl | (simp; done) | (simp [*]; done)), H', ⟨Nat.le_refl _⟩, ⟨bB0⟩⟩
  case round =>
   clear H'
   (try clear c1); (try clear c2); (try clear c2b0); (try clear c2b1); (try clear p2)
   obtain ⟨x3_1, rfl, HA, HK1, HB⟩ := hrel
   cases gk with
   | zero => exact absurd HA.out (by simp [qf18.l0])
   | succ k1 =>
    have H := HA.out
    clear HA
    simp only [qf18.l0] at H
    by_cases c3 : x3_1 < (l0.length : Int)
    ·rw [if_pos c3] at H
     have c3b0 : decide (x3_1 < (l0.length : Int)) = true := decide_eq_true c3
     clear c3
     by_cases c4 : 0 ≤ x3_1
     ·rw [if_pos c4] at H
      have c4b0 : decide (0 ≤ x3_1) = true := decide_eq_true c4
      clear c4
      replace H := Option.bind_eq_some_iff.mp H
      obtain ⟨t736, A50, H⟩ := H
      replace H : (if t736 = true then (qf18.l0 k1 l0 (wrap64 (x3_1 + 1))) else (some 1)) = some r := H
      have A5 := Aside0.mk A50
      clear A50
      by_cases c6 : t736 = true
      ·subst c6
       have H1 : (qf18.l0 k1 l0 (wrap64 (x3_1 + 1))) = some r := by rw [if_pos rfl] at H; exact H
       clear H
       have H := H1
       clear H1
       have H' := Aside0.mk H
       clear H
       have p735 : 0 ≤ (x3_1 : Int) := of_decide_eq_true (by first | (with_reducible assumption) | assumption)
       have q735 : x3_1 < (l0.length : Int) := of_decide_eq_true (by first | (with_reducible assumption) | assumption)
       obtain ⟨ad735, A735_1, c735_1, e735, hx735_0, hx735_1, hl735_1, hi735_1⟩ := at_T58 HR0.out x3_1 p735 q735
       cases e735
       have HZ735_1 := Aside0.mk hx735_1
       replace hx735_0 := mvc HB.out hx735_0
       replace hx735_1 := mvc HB.out hx735_1
       have HR735_1 := Aside0.mk hi735_1
       have HC735_1 := Aside0.mk hl735_1
       clear hi735_1 hl735_1
       replace p735 := eq_true p735
       replace q735 := eq_true q735
       go_wp2_with (first | ((with_reducible refine gate_callee (f := 45) rfl ?_); refine goesL_ (some 17) rfl rfl Tryz.func45 (by kernel_rfl) rfl #[.agg #[.string ((rd_T58 l0 x3_1).f0), .slice A735_1 ((rd_T58 l0 x3_1).f1).length c735_1]] rfl aG ?_; (with_reducible refine (qf45.calls k1 ((rd_T58 l0 x3_1).f0) _ _ ((rd_T58 l0 x3_1).f1) true _ ?side1 ?side2 A5.out).mono ?_); (case side1 => exact sC (Kd.C_below HR735_1.out HB.out)); (case side2 => exact HC735_1.out); rintro e w7 ⟨rfl, hb⟩; refine ⟨_, rfl, ?_⟩; have n0_ := Aside0.mk (below_step bB0 hb); clear HB; have HB := n0_; clear n0_; (try clear hb); (try clear hb2); (try clear hk); (try clear hi)))
       go_roundg k1
       case measure => have := HK1.out; omega
       case rel => exact ⟨(wrap64 (x3_1 + 1)), (by first | rfl | (simp; done) | (simp [*]; done)), H', ⟨by have := HK1.out; omega⟩, ⟨bB0⟩⟩
      ·replace c6 := Bool.eq_false_iff.mpr c6
       subst c6
       have H1 : (some 1) = some r := by rw [if_neg (show ¬ (false = true) by decide)] at H; exact H
       clear H
       have H := H1
       clear H1
       obtain rfl := Option.some.inj H
       have p735 : 0 ≤ (x3_1 : Int) := of_decide_eq_true (by first | (with_reducible assumption) | assumption)
       have q735 : x3_1 < (l0.length : Int) := of_decide_eq_true (by first | (with_reducible assumption) | assumption)
       obtain ⟨ad735, A735_1, c735_1, e735, hx735_0, hx735_1, hl735_1, hi735_1⟩ := at_T58 HR0.out x3_1 p735 q735
       cases e735
       have HZ735_1 := Aside0.mk hx735_1
       replace hx735_0 := mvc HB.out hx735_0
       replace hx735_1 := mvc HB.out hx735_1
       have HR735_1 := Aside0.mk hi735_1
       have HC735_1 := Aside0.mk hl735_1
       clear hi735_1 hl735_1
       replace p735 := eq_true p735
       replace q735 := eq_true q735
       go_wp2_with (first | ((with_reducible refine gate_callee (f := 45) rfl ?_); refine goesL_ (some 17) rfl rfl Tryz.func45 (by kernel_rfl) rfl #[.agg #[.string ((rd_T58 l0 x3_1).f0), .slice A735_1 ((rd_T58 l0 x3_1).f1).length c735_1]] rfl aG ?_; (with_reducible refine (qf45.calls k1 ((rd_T58 l0 x3_1).f0) _ _ ((rd_T58 l0 x3_1).f1) false _ ?side1 ?side2 A5.out).mono ?_); (case side1 => exact sC (Kd.C_below HR735_1.out HB.out)); (case side2 => exact HC735_1.out); rintro e w8 ⟨rfl, hb⟩; refine ⟨_, rfl, ?_⟩; have n0_ := Aside0.mk (below_step bB0 hb); clear HB; have HB := n0_; clear n0_; (try clear hb); (try clear hb2); (try clear hk); (try clear hi)))
       go_ret
       exact ⟨eW, bB0⟩
     ·rw [if_neg c4] at H
      exact absurd H (by simp)
    ·rw [if_neg c3] at H
     have c3b0 : decide (x3_1 < (l0.length : Int)) = false := decide_eq_false c3
     clear c3
     obtain rfl := Option.some.inj H
     go_wp2
     go_ret
     exact ⟨eW, bB0⟩
end Go.Proofs.YtghommaokdhjmaaGreat.P
/- The references' fact and trace answer what the plain forms say; texts no longer than a million bytes. -/
namespace Go.Proofs.YtghommaokdhjmaaGreat.Sat
open Go.RowKit Go.Lib Go.Proofs.YtghommaokdhjmaaGreatW.PrintWords P Str PSpec CmpF FactC SpecM
open SpecB
theorem rname_loop (s : ByteArray) (l : List ByteArray) (hl : l.length ≤ 1000000) : ∀ (m i : Nat), i + m = l.length → Ev (fun k => qf72.l0 k s l i) (!(l.drop i).any fun x => decide (s = x)) := by
 intro m
 induction m with
 | zero =>
  intro i h
  refine Ev.step (fun k => by rw [qf72.l0, if_neg (by omega)]) ?_
  rw [List.drop_eq_nil_of_le (by omega)]
  exact Ev.now _
 | succ m ih =>
  intro i h
  have hi : i < l.length := by omega
  have hrd : rdOf ByteArray.empty l (i : Int) = l[i] := by
   unfold rdOf
   rw [Int.toNat_natCast, List.getD_eq_getElem?_getD, List.getElem?_eq_getElem hi]; rfl
  refine Ev.step (fun k => by rw [qf72.l0, if_pos (by omega), if_pos (by omega), hrd, w64 hl hi]) ?_
  rw [List.drop_eq_getElem_cons hi, List.any_cons]
  by_cases e : s = l[i]
  ·simp only [if_pos ((FactC.tl_iff _ _).2 e.symm), decide_eq_true e, Bool.true_or, Bool.not_true]; exact Ev.now _
  ·simp only [if_neg (fun h => e ((FactC.tl_iff _ _).1 h).symm), decide_eq_false e, Bool.false_or]; exact ih (i + 1) (by omega)
theorem ev_rname (s : ByteArray) (hs : s.size ≤ 1000000) : Ev (fun k => qf72.f k s) (nameP s) := by
 have hw := ev_word s hs false
 rw [word_sym] at hw
 unfold qf72.f nameP
 have hv : (valP 2 0 s == 0) = symP s := by
  unfold valP
  rw [if_neg (by decide), if_pos rfl, if_pos rfl]
  cases symP s <;> rfl
 rw [hv]
 refine Ev.bind hw ?_
 cases symP s
 ·simp only [Bool.false_eq_true, if_false, Bool.false_and]; exact Ev.now _
 ·simp only [if_true, Bool.true_and]
  unfold qf106.f
  simp only [Option.bind_some]
  exact rname_loop s wordsL (by decide) wordsL.length 0 (by decide)
theorem rfact_loop (vs : List S64) (nm : ByteArray) (fv : fitV vs = true) (hl : vs.length ≤ 1000000) : ∀ (m i : Nat), i + m = vs.length → Ev (fun k => qf45.l0 k i nm vs) ((vs.drop i).all fun v => valP v.f0 v.f1 v.f2 == 0) := by
 intro m
 induction m with
 | zero =>
  intro i h
  refine Ev.step (fun k => by rw [qf45.l0, if_neg (by omega)]) ?_
  rw [List.drop_eq_nil_of_le (by omega)]
  exact Ev.now _
 | succ m ih =>
  intro i h
  have hi : i < vs.length := by omega
  refine Ev.step (fun k => by rw [qf45.l0, if_pos (by omega), if_pos (by omega), rd24_get hi, w64 hl hi]) ?_
  rw [List.drop_eq_getElem_cons hi, List.all_cons]
  refine Ev.bind (ev_value vs[i].f0 vs[i].f1 vs[i].f2 (fitV_mem.1 fv _ (List.getElem_mem hi))) ?_
  cases (valP vs[i].f0 vs[i].f1 vs[i].f2 == 0)
  ·simp only [Bool.false_eq_true, if_false, Bool.false_and]; exact Ev.now _
  ·simp only [if_true, Bool.true_and]; exact ih (i + 1) (by omega)
theorem ev_rfact {a : ByteArray} {vs : List S64} (ha : a.size ≤ 1000000) (fv : fitV vs = true) : Ev (fun k => qf45.f k a vs) (decide (factP a vs = 0)) := by
 have jt : Ev (fun k => qf45.j0 k true a vs) false := Ev.step (fun k => by rw [qf45.j0, if_pos rfl]) (Ev.now _)
 unfold qf45.f
 refine Ev.bind (ev_rname a ha) ?_
 by_cases h1 : nameP a = true
 ·simp only [if_pos h1]
  by_cases h2 : vs.length ≤ 5
  ·rw [decide_eq_false (show ¬ (vs.length : Int) > 5 by omega)]
   refine Ev.step (fun k => by rw [qf45.j0, if_neg (by decide)]) ?_
   have := rfact_loop vs a fv (by omega) vs.length 0 (by omega)
   rw [List.drop_zero] at this
   have e : decide (factP a vs = 0) = vs.all fun v => valP v.f0 v.f1 v.f2 == 0 := by
    rw [Bool.eq_iff_iff, decide_eq_true_eq, fact_zero, List.all_eq_true]
    simp only [beq_iff_eq]
    exact ⟨fun h => h.2.2, fun h => ⟨h1, h2, h⟩⟩
   rw [e]; exact this
  ·rw [decide_eq_true (show (vs.length : Int) > 5 by omega), decide_eq_false (fun h => h2 (fact_zero.1 h).2.1)]
   exact jt
 ·simp only [if_neg h1]
  rw [decide_eq_false (fun h => h1 (fact_zero.1 h).1)]
  exact jt
def rtrP (l : List S58) : Int := if 200 < l.length then 2 else if (l.all fun y => decide (factP y.f0 y.f1 = 0)) = true then 0 else 1
theorem rtrace_loop (l : List S58) (hf : ∀ y ∈ l, fitF y) (hl : l.length ≤ 1000000) : ∀ (m i : Nat), i + m = l.length → Ev (fun k => qf18.l0 k l i) (if ((l.drop i).all fun y => decide (factP y.f0 y.f1 = 0)) = true then 0 else 1) := by
 intro m
 induction m with
 | zero =>
  intro i h
  refine Ev.step (fun k => by rw [qf18.l0, if_neg (by omega)]) ?_
  rw [List.drop_eq_nil_of_le (by omega)]
  exact Ev.now _
 | succ m ih =>
  intro i h
  have hi : i < l.length := by omega
  have hy := hf l[i] (List.getElem_mem hi)
  refine Ev.step (fun k => by rw [qf18.l0, if_pos (by omega), if_pos (by omega), rd58_get hi, show wrap64 ((i : Int) + 1) = ((i + 1 : Nat) : Int) by unfold wrap64; omega]) ?_
  rw [List.drop_eq_getElem_cons hi, List.all_cons]
  refine Ev.bind (ev_rfact hy.1 hy.2.1) ?_
  cases decide (factP l[i].f0 l[i].f1 = 0)
  ·simp only [Bool.false_eq_true, if_false, Bool.false_and]; exact Ev.now _
  ·simp only [if_true, Bool.true_and]; exact ih (i + 1) (by omega)
theorem ev_rtrace {l : List S58} (hf : ∀ y ∈ l, fitF y) (hl : l.length ≤ 1000000) : Ev (fun k => qf18.f k l) (rtrP l) := by
 unfold qf18.f rtrP
 by_cases h : 200 < l.length
 ·rw [if_pos h]; simp only [if_pos (show (l.length : Int) > 200 by omega)]; exact Ev.now _
 ·rw [if_neg h]; simp only [if_neg (show ¬ (l.length : Int) > 200 by omega)]
  exact rtrace_loop l hf hl l.length 0 (by omega)
theorem trL_zero (l : List S58) : trL l = 0 ↔ ∀ y ∈ l, factP y.f0 y.f1 = 0 := by
 induction l with
 | nil => simp [trL]
 | cons f l ih =>
  rw [trL]
  by_cases h : factP f.f0 f.f1 = 0
  ·rw [if_pos h, ih]; simp [h]
  ·rw [if_neg h]; simp [h]
theorem trP_zero {l : List S58} : trP l = 0 ↔ l.length ≤ 200 ∧ ∀ y ∈ l, factP y.f0 y.f1 = 0 := by
 unfold trP
 by_cases h : 200 < l.length
 ·rw [if_pos h]; simp; omega
 ·rw [if_neg h, trL_zero]; simp; omega
end Go.Proofs.YtghommaokdhjmaaGreat.Sat
namespace Go.Proofs.YtghommaokdhjmaaGreat.P
open Go.RowKit Go.Proofs.YtghommaokdhjmaaGreatW.PrintWords Go.Proofs.YtghommaokdhjmaaGreatW.PrintLast Gate
attribute [local go_sem high] eqA64
def qf79.f (k : Nat) (a0_0 : ByteArray) (a0_1 : Int) (a0_2 : Int) (a0_3 : ByteArray) : Option (Bool) := if (a0_0.size : Int) > 0 then ((qf51.f k a0_0 true).bind fun t780 => (if t780 = true then (some (a0_1 == 0 && (a0_2 == 0 && (a0_3.toList == ([] : List UInt8))))) else (some false))) else ((qf52.f k a0_1 a0_2 a0_3).bind fun t781 => (some t781))
set_option maxHeartbeats 8000000 in
set_option maxRecDepth 100000 in
theorem qf79.calls (k : Nat) (a0_0 : ByteArray) (a0_1 : Int) (a0_2 : Int) (a0_3 : ByteArray) (r : Bool) (w : World) (h : qf79.f k a0_0 a0_1 a0_2 a0_3 = some r) :
  Calls Tryz.prog 79 #[.agg #[.string a0_0, .int .i64 a0_1, .int .i64 a0_2, .string a0_3]] w fun e w' => e = .returned (.bool r) ∧ Below w.heap.size w w' := by
 have hu92 := Tryz.underlying92
 have hu64 := Tryz.underlying64
 have HB := Aside0.mk (Below.refl w.heap.size w)
 have H : (if (a0_0.size : Int) > 0 then ((qf51.f k a0_0 true).bind fun t780 => (if t780 = true then (some (a0_1 == 0 && (a0_2 == 0 && (a0_3.toList == ([] : List UInt8))))) else (some false))) else ((qf52.f k a0_1 a0_2 a0_3).bind fun t781 => (some t781))) = some r := h
 clear h
 by_cases c2 : (a0_0.size : Int) > 0
 ·rw [if_pos c2] at H
  have c2b0 : decide (0 < (a0_0.size : Int)) = true := decide_eq_true c2
  have c2b1 : decide (0 < a0_0.size) = true := decide_eq_true (by omega)
  clear c2
  replace H := Option.bind_eq_some_iff.mp H
  obtain ⟨t780, A30, H⟩ := H
  replace H : (if t780 = true then (some (a0_1 == 0 && (a0_2 == 0 && (a0_3.toList == ([] : List UInt8))))) else (some false)) = some r := H
  have A3 := Aside0.mk A30
  clear A30
  by_cases c4 : t780 = true
  ·subst c4
   have H1 : (some (a0_1 == 0 && (a0_2 == 0 && (a0_3.toList == ([] : List UInt8))))) = some r := by rw [if_pos rfl] at H; exact H
   clear H
   have H := H1
   clear H1
   obtain rfl := Option.some.inj H
   go_enter Tryz.func79, Tryz.ntmps79
   go_wp2_with (first | ((with_reducible refine gate_dst (N := 1) rfl ?_); refine bE (N := 1) (cs := #[.string a0_0, .int .i64 a0_1, .int .i64 a0_2, .string a0_3]) (t := 92) ?_; intro gb779 hg w5 hbox hb; have n0_ := Aside0.mk (below_step bB0 hb); have n1_ := Aside0.mk (hbox); have n2_ := Aside0.mk ((by rw [hg]; exact (below_size bB0) : w.heap.size ≤ gb779)); have n3_ := Aside0.mk ((by rw [hg]; exact (below_size bB0) : w.heap.size ≤ gb779)); clear HB; have HB := n0_; have BK779 := n1_; have GW779 := n2_; have GE779 := n3_; clear n0_ n1_ n2_ n3_; clear hb hbox hg; have hcz6_0 : w5.cell? ⟨gb779, 0, none⟩ = some (.string a0_0) := (blk_cell BK779.out 0).trans rfl; have hcz6_1 : w5.cell? ⟨gb779, 1, none⟩ = some (.int .i64 a0_1) := (blk_cell BK779.out 1).trans rfl; have hcz6_2 : w5.cell? ⟨gb779, 2, none⟩ = some (.int .i64 a0_2) := (blk_cell BK779.out 2).trans rfl; have hcz6_3 : w5.cell? ⟨gb779, 3, none⟩ = some (.string a0_3) := (blk_cell BK779.out 3).trans rfl; have hfz6_0 := blk_frozen BK779.out 0; have hfz6_1 := blk_frozen BK779.out 1; have hfz6_2 := blk_frozen BK779.out 2; have hfz6_3 := blk_frozen BK779.out 3) | ((with_reducible refine gate_callee (f := 51) rfl ?_); refine goesL_ (some 9) rfl rfl Tryz.func51 (by kernel_rfl) rfl #[.string a0_0, .bool true] rfl aG ?_; (with_reducible refine (qf51.calls k a0_0 true true _ A3.out).mono ?_); rintro e w' ⟨rfl, ⟨nd, rfl⟩⟩; refine ⟨_, rfl, ?_⟩))
   go_ret
   exact ⟨eW, (bB1 GE779.out)⟩
  ·replace c4 := Bool.eq_false_iff.mpr c4
   subst c4
   have H1 : (some false) = some r := by rw [if_neg (show ¬ (false = true) by decide)] at H; exact H
   clear H
   have H := H1
   clear H1
   obtain rfl := Option.some.inj H
   go_enter Tryz.func79, Tryz.ntmps79
   go_wp2_with (first | ((with_reducible refine gate_dst (N := 1) rfl ?_); refine bE (N := 1) (cs := #[.string a0_0, .int .i64 a0_1, .int .i64 a0_2, .string a0_3]) (t := 92) ?_; intro gb779 hg w7 hbox hb; have n0_ := Aside0.mk (below_step bB0 hb); have n1_ := Aside0.mk (hbox); have n2_ := Aside0.mk ((by rw [hg]; exact (below_size bB0) : w.heap.size ≤ gb779)); have n3_ := Aside0.mk ((by rw [hg]; exact (below_size bB0) : w.heap.size ≤ gb779)); clear HB; have HB := n0_; have BK779 := n1_; have GW779 := n2_; have GE779 := n3_; clear n0_ n1_ n2_ n3_; clear hb hbox hg; have hcz8_0 : w7.cell? ⟨gb779, 0, none⟩ = some (.string a0_0) := (blk_cell BK779.out 0).trans rfl; have hcz8_1 : w7.cell? ⟨gb779, 1, none⟩ = some (.int .i64 a0_1) := (blk_cell BK779.out 1).trans rfl; have hcz8_2 : w7.cell? ⟨gb779, 2, none⟩ = some (.int .i64 a0_2) := (blk_cell BK779.out 2).trans rfl; have hcz8_3 : w7.cell? ⟨gb779, 3, none⟩ = some (.string a0_3) := (blk_cell BK779.out 3).trans rfl; have hfz8_0 := blk_frozen BK779.out 0; have hfz8_1 := blk_frozen BK779.out 1; have hfz8_2 := blk_frozen BK779.out 2; have hfz8_3 := blk_frozen BK779.out 3) | ((with_reducible refine gate_callee (f := 51) rfl ?_); refine goesL_ (some 9) rfl rfl Tryz.func51 (by kernel_rfl) rfl #[.string a0_0, .bool true] rfl aG ?_; (with_reducible refine (qf51.calls k a0_0 true false _ A3.out).mono ?_); rintro e w' ⟨rfl, ⟨nd, rfl⟩⟩; refine ⟨_, rfl, ?_⟩))
   go_ret
   exact ⟨eW, (bB1 GE779.out)⟩
 ·rw [if_neg c2] at H
  have c2b0 : decide (0 < (a0_0.size : Int)) = false := decide_eq_false c2
  have c2b1 : decide (0 < a0_0.size) = false := decide_eq_false (by omega)
  clear c2
  replace H := Option.bind_eq_some_iff.mp H
  obtain ⟨t781, A90, H⟩ := H
  replace H : (some t781) = some r := H
  have A9 := Aside0.mk A90
  clear A90
  obtain rfl := Option.some.inj H
  go_enter Tryz.func79, Tryz.ntmps79
  go_wp2_with (first | ((with_reducible refine gate_dst (N := 1) rfl ?_); refine bE (N := 1) (cs := #[.string a0_0, .int .i64 a0_1, .int .i64 a0_2, .string a0_3]) (t := 92) ?_; intro gb779 hg w10 hbox hb; have n0_ := Aside0.mk (below_step bB0 hb); have n1_ := Aside0.mk (hbox); have n2_ := Aside0.mk ((by rw [hg]; exact (below_size bB0) : w.heap.size ≤ gb779)); have n3_ := Aside0.mk ((by rw [hg]; exact (below_size bB0) : w.heap.size ≤ gb779)); clear HB; have HB := n0_; have BK779 := n1_; have GW779 := n2_; have GE779 := n3_; clear n0_ n1_ n2_ n3_; clear hb hbox hg; have hcz11_0 : w10.cell? ⟨gb779, 0, none⟩ = some (.string a0_0) := (blk_cell BK779.out 0).trans rfl; have hcz11_1 : w10.cell? ⟨gb779, 1, none⟩ = some (.int .i64 a0_1) := (blk_cell BK779.out 1).trans rfl; have hcz11_2 : w10.cell? ⟨gb779, 2, none⟩ = some (.int .i64 a0_2) := (blk_cell BK779.out 2).trans rfl; have hcz11_3 : w10.cell? ⟨gb779, 3, none⟩ = some (.string a0_3) := (blk_cell BK779.out 3).trans rfl; have hfz11_0 := blk_frozen BK779.out 0; have hfz11_1 := blk_frozen BK779.out 1; have hfz11_2 := blk_frozen BK779.out 2; have hfz11_3 := blk_frozen BK779.out 3) | ((with_reducible refine gate_callee (f := 52) rfl ?_); refine goesL_ (some 18) rfl rfl Tryz.func52 (by kernel_rfl) rfl #[.agg #[.int .i64 a0_1, .int .i64 a0_2, .string a0_3]] rfl aG ?_; (with_reducible refine (qf52.calls k a0_1 a0_2 a0_3 t781 _ A9.out).mono ?_); rintro e w12 ⟨rfl, hb⟩; refine ⟨_, rfl, ?_⟩; have n0_ := Aside0.mk (blk_below (g := gb779) (o := .cells #[.string a0_0, .int .i64 a0_1, .int .i64 a0_2, .string a0_3] 92 (0, 0)) (by refine bk ?_; exact BK779.out) hb); have n1_ := Aside0.mk (below_step (bB1 GE779.out) hb); clear BK779; clear HB; have BK779 := n0_; have HB := n1_; clear n0_ n1_; (try clear hb); (try clear hb2); (try clear hk); (try clear hi)))
  go_ret
  exact ⟨eW, (bB1 GE779.out)⟩
mutual
def qf48.j0 : Nat → Bool → ByteArray → List (S92) → Option (Bool)
 | 0, _, _, _ => none
 | k + 1, x13, x783000, x783001 => if x13 = true then (some false) else (qf48.l0 k 0 x783000 x783001)
def qf48.l0 : Nat → Int → ByteArray → List (S92) → Option (Bool)
 | 0, _, _, _ => none
 | k + 1, x3, x783000, x783001 => if x3 < (x783001.length : Int) then (if 0 ≤ x3 then ((qf79.f k ((rd_T92 x783001 x3).f0) ((rd_T92 x783001 x3).f1.f0) ((rd_T92 x783001 x3).f1.f1) ((rd_T92 x783001 x3).f1.f2)).bind fun t785 => (if t785 = true then (qf48.l0 k (wrap64 (x3 + 1)) x783000 x783001) else (some false))) else (none)) else (some true)
end
def qf48.f (k : Nat) (a0_0 : ByteArray) (l0_1 : List (S92)) : Option (Bool) := (qf72.f k a0_0).bind fun t783 => (if t783 = true then (qf48.j0 k (decide ((l0_1.length : Int) > 5)) a0_0 l0_1) else (qf48.j0 k true a0_0 l0_1))
set_option maxHeartbeats 8000000 in
set_option maxRecDepth 100000 in
theorem qf48.calls (k : Nat) (a0_0 : ByteArray) (A0_1 : Option Addr) (c0_1 : Nat) (l0_1 : List (S92)) (r : Bool) (w : World) (hr0_1 : Kd.C k92 w A0_1 l0_1.length l0_1) (hc0_1 : l0_1.length ≤ c0_1) (h : qf48.f k a0_0 l0_1 = some r) :
  Calls Tryz.prog 48 #[.agg #[.string a0_0, .slice A0_1 l0_1.length c0_1]] w fun e w' => e = .returned (.bool r) ∧ Below w.heap.size w w' := by
 have hu25 := Tryz.underlying25
 have hu92 := Tryz.underlying92
 have HR0_1 := Aside0.mk hr0_1
 have HC0_1 := Aside0.mk hc0_1
 clear hr0_1 hc0_1
 have HB := Aside0.mk (Below.refl w.heap.size w)
 have H : ((qf72.f k a0_0).bind fun t783 => (if t783 = true then (qf48.j0 k (decide ((l0_1.length : Int) > 5)) a0_0 l0_1) else (qf48.j0 k true a0_0 l0_1))) = some r := h
 clear h
 have HC2 := Aside0.mk H
 clear H
 go_enter Tryz.func48, Tryz.ntmps48
 go_upto_region 1 with (first | ((with_reducible refine gate_dst (N := 1) rfl ?_); (try (refine gate_guard (by rfl) ?_; dsimp only)); refine bE (N := 1) (cs := #[.string a0_0, .slice A0_1 l0_1.length c0_1]) (t := 25) ?_; intro gb782 hg w3 hbox hb; have n0_ := Aside0.mk (below_step bB0 hb); have n1_ := Aside0.mk (hbox); have n2_ := Aside0.mk ((by rw [hg]; exact (below_size bB0) : w.heap.size ≤ gb782)); have n3_ := Aside0.mk ((by rw [hg]; exact (below_size bB0) : w.heap.size ≤ gb782)); clear HB; have HB := n0_; have BK782 := n1_; have GW782 := n2_; have GE782 := n3_; clear n0_ n1_ n2_ n3_; clear hb hbox hg))
 (try simp only [Act.put, List.setIfInBounds_toArray, List.set_cons_zero, List.set_cons_succ])
 go_cut [13] (fun v13 wc => ∃ (kq : Nat) (x13_1 : Bool), v13 = .bool x13_1 ∧ Aside0 (qf48.j0 kq x13_1 a0_0 l0_1 = some r) ∧ Aside0 (kq ≤ k) ∧ Aside0 (wc.heap[gb782]? = some (.cells #[.string a0_0, (.slice A0_1 l0_1.length c0_1)] 25 (0, 0))) ∧ Aside0 (Below w.heap.size w wc))
 case first =>
  have H := HC2.out
  clear HC2
  replace H := Option.bind_eq_some_iff.mp H
  obtain ⟨t783, A40, H⟩ := H
  replace H : (if t783 = true then (qf48.j0 k (decide ((l0_1.length : Int) > 5)) a0_0 l0_1) else (qf48.j0 k true a0_0 l0_1)) = some r := H
  have A4 := Aside0.mk A40
  clear A40
  by_cases c5 : t783 = true
  ·subst c5
   have H1 : (qf48.j0 k (decide ((l0_1.length : Int) > 5)) a0_0 l0_1) = some r := by rw [if_pos rfl] at H; exact H
   clear H
   have H := H1
   clear H1
   have H' := Aside0.mk H
   clear H
   have hcz6_0 : w3.cell? ⟨gb782, 0, none⟩ = some (.string a0_0) := (blk_cell BK782.out 0).trans rfl
   have hcz6_1 : w3.cell? ⟨gb782, 1, none⟩ = some (.slice A0_1 l0_1.length c0_1) := (blk_cell BK782.out 1).trans rfl
   have hfz6_0 := blk_frozen BK782.out 0
   have hfz6_1 := blk_frozen BK782.out 1
   go_wp2_with (first | ((with_reducible refine gate_callee (f := 72) rfl ?_); refine goesL_ (some 6) rfl rfl Tryz.func72 (by kernel_rfl) rfl #[.string a0_0] rfl aG ?_; (with_reducible refine (qf72.calls k a0_0 true _ A4.out).mono ?_); rintro e w7 ⟨rfl, hb⟩; refine ⟨_, rfl, ?_⟩; have n0_ := Aside0.mk (blk_below (g := gb782) (o := .cells #[.string a0_0, .slice A0_1 l0_1.length c0_1] 25 (0, 0)) (by refine bk ?_; exact BK782.out) hb); have n1_ := Aside0.mk (below_step (bB1 GE782.out) hb); clear BK782; clear HB; have BK782 := n0_; have HB := n1_; clear n0_ n1_; (try clear hb); (try clear hb2); (try clear hk); (try clear hi); have hcz8_0 : w7.cell? ⟨gb782, 0, none⟩ = some (.string a0_0) := (blk_cell BK782.out 0).trans rfl; have hcz8_1 : w7.cell? ⟨gb782, 1, none⟩ = some (.slice A0_1 l0_1.length c0_1) := (blk_cell BK782.out 1).trans rfl; have hfz8_0 := blk_frozen BK782.out 0; have hfz8_1 := blk_frozen BK782.out 1))
   go_meet
   case rel => exact ⟨_, (decide ((l0_1.length : Int) > 5)), (by first | rfl | (simp; done) | (simp [*]; done)), H', ⟨by first | omega | exact Nat.le_refl _⟩, ⟨by refine bk ?_; exact BK782.out⟩, ⟨(bB1 GE782.out)⟩⟩
  ·replace c5 := Bool.eq_false_iff.mpr c5
   subst c5
   have H1 : (qf48.j0 k true a0_0 l0_1) = some r := by rw [if_neg (show ¬ (false = true) by decide)] at H; exact H
   clear H
   have H := H1
   clear H1
   have H' := Aside0.mk H
   clear H
   have hcz9_0 : w3.cell? ⟨gb782, 0, none⟩ = some (.string a0_0) := (blk_cell BK782.out 0).trans rfl
   have hcz9_1 : w3.cell? ⟨gb782, 1, none⟩ = some (.slice A0_1 l0_1.length c0_1) := (blk_cell BK782.out 1).trans rfl
   have hfz9_0 := blk_frozen BK782.out 0
   have hfz9_1 := blk_frozen BK782.out 1
   go_wp2_with (first | ((with_reducible refine gate_callee (f := 72) rfl ?_); refine goesL_ (some 6) rfl rfl Tryz.func72 (by kernel_rfl) rfl #[.string a0_0] rfl aG ?_; (with_reducible refine (qf72.calls k a0_0 false _ A4.out).mono ?_); rintro e w10 ⟨rfl, hb⟩; refine ⟨_, rfl, ?_⟩; have n0_ := Aside0.mk (blk_below (g := gb782) (o := .cells #[.string a0_0, .slice A0_1 l0_1.length c0_1] 25 (0, 0)) (by refine bk ?_; exact BK782.out) hb); have n1_ := Aside0.mk (below_step (bB1 GE782.out) hb); clear BK782; clear HB; have BK782 := n0_; have HB := n1_; clear n0_ n1_; (try clear hb); (try clear hb2); (try clear hk); (try clear hi)))
   go_meet
   case rel => exact ⟨_, (true), (by first | rfl | (simp; done) | (simp [*]; done)), H', ⟨by first | omega | exact Nat.le_refl _⟩, ⟨by refine bk ?_; exact BK782.out⟩, ⟨(bB1 GE782.out)⟩⟩
 case rest =>
  clear HC2
  (try clear p2); (try clear c4); (try clear c5); (try clear c7); (try clear hcz6_0); (try clear hcz6_1); (try clear hcz8_0); (try clear hcz8_1); (try clear hcz9_0); (try clear hcz9_1); (try clear hfz6_0); (try clear hfz6_1); (try clear hfz8_0); (try clear hfz8_1); (try clear hfz9_0); (try clear hfz9_1)
  obtain ⟨kq, x13_1, rfl, HA, HJ1, BK782, HB⟩ := hcut
  cases kq with
  | zero => exact absurd HA.out (by simp [qf48.j0])
  | succ kj1 =>
   have H := HA.out
   clear HA
   simp only [qf48.j0] at H
   by_cases c11 : x13_1 = true
   ·subst c11
    have H1 : (some false) = some r := by rw [if_pos rfl] at H; exact H
    clear H
    have H := H1
    clear H1
    obtain rfl := Option.some.inj H
    go_wp2
    go_ret
    exact ⟨eW, (bB1 GE782.out)⟩
   ·replace c11 := Bool.eq_false_iff.mpr c11
    subst c11
    have H1 : (qf48.l0 kj1 0 a0_0 l0_1) = some r := by rw [if_neg (show ¬ (false = true) by decide)] at H; exact H
    clear H
    have H := H1
    clear H1
    have H' := Aside0.mk H
    clear H
    go_wp2
    go_loopg [3] kj1 (fun kq v3 w' => ∃ (x3_2 : Int), v3 = .int .i64 x3_2 ∧ Aside0 (qf48.l0 kq x3_2 a0_0 l0_1 = some r) ∧ Aside0 (kq ≤ kj1) ∧ Aside0 (w'.heap[gb782]? = some (.cells #[.string a0_0, (.slice A0_1 l0_1.length c0_1)] 25 (0, 0))) ∧ Aside0 (Below w.heap.size w w'))
    case atStart => exact ⟨(0), (by first | rfl | (simp; done) | (simp [*]; done)), H', ⟨Nat.le_refl _⟩, ⟨by refine bk ?_; exact BK782.out⟩, ⟨(bB1 GE782.out)⟩⟩
    case round =>
     clear H'
     (try clear c1); (try clear p2); (try clear c4); (try clear c5); (try clear c7); (try clear c11); (try clear hcz6_0); (try clear hcz6_1); (try clear hcz8_0); (try clear hcz8_1); (try clear hcz9_0); (try clear hcz9_1); (try clear hfz6_0); (try clear hfz6_1); (try clear hfz8_0); (try clear hfz8_1); (try clear hfz9_0); (try clear hfz9_1); (try clear p2)
     obtain ⟨x3_2, rfl, HA, HK2, BK782, HB⟩ := hrel
     cases gk with
     | zero => exact absurd HA.out (by simp [qf48.l0])
     | succ k2 =>
      have H := HA.out
      clear HA
      simp only [qf48.l0] at H
      by_cases c12 : x3_2 < (l0_1.length : Int)
      ·rw [if_pos c12] at H
       have c12b0 : decide (x3_2 < (l0_1.length : Int)) = true := decide_eq_true c12
       clear c12
       by_cases c13 : 0 ≤ x3_2
       ·rw [if_pos c13] at H
        have c13b0 : decide (0 ≤ x3_2) = true := decide_eq_true c13
        clear c13
        replace H := Option.bind_eq_some_iff.mp H
        obtain ⟨t785, A140, H⟩ := H
        replace H : (if t785 = true then (qf48.l0 k2 (wrap64 (x3_2 + 1)) a0_0 l0_1) else (some false)) = some r := H
        have A14 := Aside0.mk A140
        clear A140
        by_cases c15 : t785 = true
        ·subst c15
         have H1 : (qf48.l0 k2 (wrap64 (x3_2 + 1)) a0_0 l0_1) = some r := by rw [if_pos rfl] at H; exact H
         clear H
         have H := H1
         clear H1
         have H' := Aside0.mk H
         clear H
         have hcz16_0 : wr.cell? ⟨gb782, 0, none⟩ = some (.string a0_0) := (blk_cell BK782.out 0).trans rfl
         have hcz16_1 : wr.cell? ⟨gb782, 1, none⟩ = some (.slice A0_1 l0_1.length c0_1) := (blk_cell BK782.out 1).trans rfl
         have hfz16_0 := blk_frozen BK782.out 0
         have hfz16_1 := blk_frozen BK782.out 1
         have p784 : 0 ≤ (x3_2 : Int) := of_decide_eq_true (by first | (with_reducible assumption) | assumption)
         have q784 : x3_2 < (l0_1.length : Int) := of_decide_eq_true (by first | (with_reducible assumption) | assumption)
         obtain ⟨ad784, e784, hx784_0, hx784_1, hx784_2, hx784_3⟩ := at_T92 HR0_1.out x3_2 p784 q784
         cases e784
         replace hx784_0 := mvc HB.out hx784_0
         replace hx784_1 := mvc HB.out hx784_1
         replace hx784_2 := mvc HB.out hx784_2
         replace hx784_3 := mvc HB.out hx784_3
         replace p784 := eq_true p784
         replace q784 := eq_true q784
         go_wp2_with (first | ((with_reducible refine gate_callee (f := 79) rfl ?_); refine goesL_ (some 26) rfl rfl Tryz.func79 (by kernel_rfl) rfl #[.agg #[.string ((rd_T92 l0_1 x3_2).f0), .int .i64 ((rd_T92 l0_1 x3_2).f1.f0), .int .i64 ((rd_T92 l0_1 x3_2).f1.f1), .string ((rd_T92 l0_1 x3_2).f1.f2)]] rfl aG ?_; (with_reducible refine (qf79.calls k2 ((rd_T92 l0_1 x3_2).f0) ((rd_T92 l0_1 x3_2).f1.f0) ((rd_T92 l0_1 x3_2).f1.f1) ((rd_T92 l0_1 x3_2).f1.f2) true _ A14.out).mono ?_); rintro e w17 ⟨rfl, hb⟩; refine ⟨_, rfl, ?_⟩; have n0_ := Aside0.mk (blk_below (g := gb782) (o := .cells #[.string a0_0, .slice (some ad784) l0_1.length c0_1] 25 (0, 0)) (by refine bk ?_; exact BK782.out) hb); have n1_ := Aside0.mk (below_step (bB1 GE782.out) hb); clear BK782; clear HB; have BK782 := n0_; have HB := n1_; clear n0_ n1_; (try clear hb); (try clear hb2); (try clear hk); (try clear hi)))
         go_roundg k2
         case measure => have := HJ1.out; have := HK2.out; omega
         case rel => exact ⟨(wrap64 (x3_2 + 1)), (by first | rfl | (simp; done) | (simp [*]; done)), H', ⟨by have := HJ1.out; have := HK2.out; omega⟩, ⟨by refine bk ?_; exact BK782.out⟩, ⟨(bB1 GE782.out)⟩⟩
        ·replace c15 := Bool.eq_false_iff.mpr c15
         subst c15
         have H1 : (some false) = some r := by rw [if_neg (show ¬ (false = true) by decide)] at H; exact H
         clear H
         have H := H1
         clear H1
         obtain rfl := Option.some.inj H
         have hcz18_0 : wr.cell? ⟨gb782, 0, none⟩ = some (.string a0_0) := (blk_cell BK782.out 0).trans rfl
         have hcz18_1 : wr.cell? ⟨gb782, 1, none⟩ = some (.slice A0_1 l0_1.length c0_1) := (blk_cell BK782.out 1).trans rfl
         have hfz18_0 := blk_frozen BK782.out 0
         have hfz18_1 := blk_frozen BK782.out 1
         have p784 : 0 ≤ (x3_2 : Int) := of_decide_eq_true (by first | (with_reducible assumption) | assumption)
         have q784 : x3_2 < (l0_1.length : Int) := of_decide_eq_true (by first | (with_reducible assumption) | assumption)
         obtain ⟨ad784, e784, hx784_0, hx784_1, hx784_2, hx784_3⟩ := at_T92 HR0_1.out x3_2 p784 q784
         cases e784
         replace hx784_0 := mvc HB.out hx784_0
         replace hx784_1 := mvc HB.out hx784_1
         replace hx784_2 := mvc HB.out hx784_2
         replace hx784_3 := mvc HB.out hx784_3
         replace p784 := eq_true p784
         replace q784 := eq_true q784
         go_wp2_with (first | ((with_reducible refine gate_callee (f := 79) rfl ?_); refine goesL_ (some 26) rfl rfl Tryz.func79 (by kernel_rfl) rfl #[.agg #[.string ((rd_T92 l0_1 x3_2).f0), .int .i64 ((rd_T92 l0_1 x3_2).f1.f0), .int .i64 ((rd_T92 l0_1 x3_2).f1.f1), .string ((rd_T92 l0_1 x3_2).f1.f2)]] rfl aG ?_; (with_reducible refine (qf79.calls k2 ((rd_T92 l0_1 x3_2).f0) ((rd_T92 l0_1 x3_2).f1.f0) ((rd_T92 l0_1 x3_2).f1.f1) ((rd_T92 l0_1 x3_2).f1.f2) false _ A14.out).mono ?_); rintro e w19 ⟨rfl, hb⟩; refine ⟨_, rfl, ?_⟩; have n0_ := Aside0.mk (blk_below (g := gb782) (o := .cells #[.string a0_0, .slice (some ad784) l0_1.length c0_1] 25 (0, 0)) (by refine bk ?_; exact BK782.out) hb); have n1_ := Aside0.mk (below_step (bB1 GE782.out) hb); clear BK782; clear HB; have BK782 := n0_; have HB := n1_; clear n0_ n1_; (try clear hb); (try clear hb2); (try clear hk); (try clear hi)))
         go_ret
         exact ⟨eW, (bB1 GE782.out)⟩
       ·rw [if_neg c13] at H
        exact absurd H (by simp)
      ·rw [if_neg c12] at H
       have c12b0 : decide (x3_2 < (l0_1.length : Int)) = false := decide_eq_false c12
       clear c12
       obtain rfl := Option.some.inj H
       have hcz20_0 : wr.cell? ⟨gb782, 0, none⟩ = some (.string a0_0) := (blk_cell BK782.out 0).trans rfl
       have hcz20_1 : wr.cell? ⟨gb782, 1, none⟩ = some (.slice A0_1 l0_1.length c0_1) := (blk_cell BK782.out 1).trans rfl
       have hfz20_0 := blk_frozen BK782.out 0
       have hfz20_1 := blk_frozen BK782.out 1
       go_wp2
       go_ret
       exact ⟨eW, (bB1 GE782.out)⟩
end Go.Proofs.YtghommaokdhjmaaGreat.P
/- The references' terms and atoms answer what the plain forms say; texts no longer than a million bytes. -/
namespace Go.Proofs.YtghommaokdhjmaaGreat.Sat
open Go.RowKit Go.Lib Go.Sort Go.Proofs.SymP Go.Proofs.YtghommaokdhjmaaGreatW.PrintWords P FactC IRow Frm SpecM SpecB PSat PSpec CmpF BothB SortStr Str
theorem con_size2 (t : S92) : con t ↔ t.f0.size = 0 := by
 unfold con
 rw [ByteArray.toList_eq]
 exact ⟨fun h => by have := congrArg List.length h; simpa using this, fun h => List.length_eq_zero_iff.1 (by simpa using h)⟩
theorem ev_rterm (t : S92) (h1 : t.f0.size ≤ 1000000) (h2 : t.f1.f2.size ≤ 1000000) : Ev (fun k => qf79.f k t.f0 t.f1.f0 t.f1.f1 t.f1.f2) (termP t) := by
 unfold qf79.f termP
 by_cases hc : t.f0.toList = ([] : List UInt8)
 ·have hz : t.f0.size = 0 := (con_size2 t).1 hc
  simp only [if_pos hc, if_neg (show ¬ (t.f0.size : Int) > 0 by omega)]
  exact Ev.bind (ev_value _ _ _ h2) (Ev.now _)
 ·have hz : t.f0.size ≠ 0 := fun h => hc ((con_size2 t).2 h)
  simp only [if_neg hc, if_pos (show (t.f0.size : Int) > 0 by omega)]
  have hw := ev_word t.f0 h1 true
  rw [word_var] at hw
  refine Ev.bind hw ?_
  cases varP t.f0
  ·simp only [Bool.false_eq_true, if_false, Bool.false_and]; exact Ev.now _
  ·simp only [if_true, Bool.true_and]; exact Ev.now _
theorem ratom_loop (ts : List S92) (nm : ByteArray) (ft : fitT ts = true) (hl : ts.length ≤ 1000000) : ∀ (m i : Nat), i + m = ts.length → Ev (fun k => qf48.l0 k i nm ts) ((ts.drop i).all termP) := by
 intro m
 induction m with
 | zero =>
  intro i h
  refine Ev.step (fun k => by rw [qf48.l0, if_neg (by omega)]) ?_
  rw [List.drop_eq_nil_of_le (by omega)]
  exact Ev.now _
 | succ m ih =>
  intro i h
  have hi : i < ts.length := by omega
  have hf := fitT_mem.1 ft _ (List.getElem_mem hi)
  refine Ev.step (fun k => by rw [qf48.l0, if_pos (by omega), if_pos (by omega), rdT_get hi, w64 hl hi]) ?_
  rw [List.drop_eq_getElem_cons hi, List.all_cons]
  refine Ev.bind (ev_rterm ts[i] hf.1 hf.2) ?_
  cases termP ts[i]
  ·simp only [Bool.false_eq_true, if_false, Bool.false_and]; exact Ev.now _
  ·simp only [if_true, Bool.true_and]; exact ih (i + 1) (by omega)
theorem ev_ratom {a : ByteArray} {ts : List S92} (ha : a.size ≤ 1000000) (ft : fitT ts = true) : Ev (fun k => qf48.f k a ts) (decide (matP a ts = 0)) := by
 have jt : Ev (fun k => qf48.j0 k true a ts) false := Ev.step (fun k => by rw [qf48.j0, if_pos rfl]) (Ev.now _)
 unfold qf48.f
 refine Ev.bind (ev_rname a ha) ?_
 by_cases h1 : nameP a = true
 ·simp only [if_pos h1]
  by_cases h2 : ts.length ≤ 5
  ·rw [decide_eq_false (show ¬ (ts.length : Int) > 5 by omega)]
   refine Ev.step (fun k => by rw [qf48.j0, if_neg (by decide)]) ?_
   have := ratom_loop ts a ft (by omega) ts.length 0 (by omega)
   rw [List.drop_zero] at this
   have e : decide (matP a ts = 0) = ts.all termP := by
    rw [Bool.eq_iff_iff, decide_eq_true_eq, mat_zero, List.all_eq_true]
    exact ⟨fun h => h.2.2, fun h => ⟨h1, h2, h⟩⟩
   rw [e]; exact this
  ·rw [decide_eq_true (show (ts.length : Int) > 5 by omega), decide_eq_false (fun h => h2 (mat_zero.1 h).2.1)]
   exact jt
 ·simp only [if_neg h1]
  rw [decide_eq_false (fun h => h1 (mat_zero.1 h).1)]
  exact jt
section
variable {W : World} {A : Option Addr} {c : Nat}
theorem cRName {s : ByteArray} (hs : s.size ≤ 1000000) : Calls Tryz.prog 72 #[.string s] W fun e w' => e = .returned (.bool (nameP s)) ∧ Go.RowKit.Below W.heap.size W w' := by
 obtain ⟨k, hk⟩ := (ev_rname s hs).rounds
 exact (qf72.calls k s _ W hk).mono fun e w' h => ⟨h.1, h.2⟩
theorem cRAtom {a : ByteArray} {ts : List S92} (ha : a.size ≤ 1000000) (ft : fitT ts = true) (h1 : ts.length ≤ c) (h2 : Kd.C k92 W A ts.length ts) : Calls Tryz.prog 48 #[.agg #[.string a, .slice A ts.length c]] W fun e w' => e = .returned (.bool (decide (matP a ts = 0))) ∧ Go.RowKit.Below W.heap.size W w' := by
 obtain ⟨k, hk⟩ := (ev_ratom ha ft).rounds
 exact qf48.calls k a A c ts _ W h2 h1 hk
end
end Go.Proofs.YtghommaokdhjmaaGreat.Sat
/- The reference's Formula says what formula.Check says. -/
namespace Go.Proofs.YtghommaokdhjmaaGreat.Sat
open Go.RowKit Go.Lib Go.Sort Go.Proofs.SymP Go.Proofs.YtghommaokdhjmaaGreatW.PrintWords P FactC IRow Frm SpecM SpecB PSat PSpec CmpF BothB SortStr Str
section
variable {W : World}
theorem cIn (v lo hi : Int) : Calls Tryz.prog 47 #[.int .i64 v, .int .i64 lo, .int .i64 hi] W fun e w' => e = .returned (.bool (decide (lo ≤ v ∧ v ≤ hi))) ∧ Go.RowKit.Below W.heap.size W w' := by
 by_cases h1 : lo ≤ v
 ·have d1 : decide (lo ≤ v) = true := decide_eq_true h1
  by_cases h2 : v ≤ hi
  ·have d2 : decide (v ≤ hi) = true := decide_eq_true h2
   rw [decide_eq_true (show lo ≤ v ∧ v ≤ hi from ⟨h1, h2⟩)]
   go_enter Tryz.func47, Tryz.ntmps47
   go_wp2
   go_ret
   exact ⟨rfl, Go.RowKit.Below.refl _ _⟩
  ·have d2 : decide (v ≤ hi) = false := decide_eq_false h2
   rw [decide_eq_false (show ¬ (lo ≤ v ∧ v ≤ hi) from fun h => h2 h.2)]
   go_enter Tryz.func47, Tryz.ntmps47
   go_wp2
   go_ret
   exact ⟨rfl, Go.RowKit.Below.refl _ _⟩
 ·have d1 : decide (lo ≤ v) = false := decide_eq_false h1
  rw [decide_eq_false (show ¬ (lo ≤ v ∧ v ≤ hi) from fun h => h1 h.1)]
  go_enter Tryz.func47, Tryz.ntmps47
  go_wp2
  go_ret
  exact ⟨rfl, Go.RowKit.Below.refl _ _⟩
theorem cOne (k : Int) : Calls Tryz.prog 49 #[.int .i64 k] W fun e w' => e = .returned (.bool (decide (arms k = 1))) ∧ Go.RowKit.Below W.heap.size W w' := by
 have hc : k = 2 ∨ k = 5 ∨ k = 6 ∨ k = 7 ∨ ((k == 2) = false ∧ (k == 5) = false ∧ (k == 6) = false ∧ (k == 7) = false ∧ decide (arms k = 1) = false) := by
  by_cases h2 : k = 2
  ·exact .inl h2
  by_cases h5 : k = 5
  ·exact .inr (.inl h5)
  by_cases h6 : k = 6
  ·exact .inr (.inr (.inl h6))
  by_cases h7 : k = 7
  ·exact .inr (.inr (.inr (.inl h7)))
  refine .inr (.inr (.inr (.inr ⟨beq_false_of_ne h2, beq_false_of_ne h5, beq_false_of_ne h6, beq_false_of_ne h7, decide_eq_false fun h => ?_⟩)))
  have := arms_kind.2.1 h
  omega
 rcases hc with rfl | rfl | rfl | rfl | ⟨d1, d2, d3, d4, d5⟩
 all_goals (
  first | rw [d5] | rw [decide_eq_true (by decide)]
  go_enter Tryz.func49, Tryz.ntmps49
  go_wp2
  go_ret
  exact ⟨rfl, Go.RowKit.Below.refl _ _⟩)
theorem cTwo (k : Int) : Calls Tryz.prog 50 #[.int .i64 k] W fun e w' => e = .returned (.bool (decide (arms k = 2))) ∧ Go.RowKit.Below W.heap.size W w' := by
 have hc : k = 3 ∨ k = 4 ∨ k = 8 ∨ ((k == 3) = false ∧ (k == 4) = false ∧ (k == 8) = false ∧ decide (arms k = 2) = false) := by
  by_cases h2 : k = 3
  ·exact .inl h2
  by_cases h5 : k = 4
  ·exact .inr (.inl h5)
  by_cases h6 : k = 8
  ·exact .inr (.inr (.inl h6))
  refine .inr (.inr (.inr ⟨beq_false_of_ne h2, beq_false_of_ne h5, beq_false_of_ne h6, decide_eq_false fun h => ?_⟩))
  have := arms_kind.2.2 h
  unfold two at this
  omega
 rcases hc with rfl | rfl | rfl | ⟨d1, d2, d3, d5⟩
 all_goals (
  first | rw [d5] | rw [decide_eq_true (by decide)]
  go_enter Tryz.func50, Tryz.ntmps50
  go_wp2
  go_ret
  exact ⟨rfl, Go.RowKit.Below.refl _ _⟩)
end
theorem infoI0 : (Tryz.prog.info? 3).map (fun i => (i.zero, i.size, i.bytes)) = some (some (.int .i64 0), 1, 8) := by kernel_rfl
def IB (W : World) (g N : Nat) (xs : List Int) : Prop := xs.length = N ∧ W.heap[g]? = some (.cells (xs.map (Value.int .i64)).toArray 3 (0, 0))
theorem IB.cell {W : World} {g N q : Nat} {xs : List Int} (h : IB W g N xs) (hq : q < N) : W.cell? ⟨g, q, none⟩ = some (.int .i64 (xs.getD q 0)) := by
 have := h.1
 rw [blk_cell h.2 q]
 simp [List.getElem?_eq_getElem (show q < xs.length by omega), List.getD_eq_getElem?_getD]
theorem IB.set {W : World} {g N : Nat} {xs : List Int} (h : IB W g N xs) (q : Nat) (v : Int) : IB (W.setCell ⟨g, q, none⟩ (.int .i64 v)) g N (xs.set q v) := by
 refine ⟨by rw [List.length_set]; exact h.1, ?_⟩
 simp [World.setCell, Array.getElem?_modify, h.2, List.map_set]
theorem IB.other {W : World} {g g2 N : Nat} {xs : List Int} (h : IB W g N xs) (hne : g ≠ g2) (q : Nat) (v : Value) : IB (W.setCell ⟨g2, q, none⟩ v) g N xs := ⟨h.1, (Go.RowKit.Below.heap_setCell W _ v g hne).trans h.2⟩
theorem IB.below {W W' : World} {g N : Nat} {xs : List Int} (h : IB W g N xs) (hb : Go.RowKit.Below W.heap.size W W') : IB W' g N xs := ⟨h.1, (hb.block g (blk_lt h.2)).trans h.2⟩
theorem IB.drew {W : World} {g N : Nat} {xs : List Int} (h : IB W g N xs) : IB W.drew g N xs := h
theorem IB.frozen {W : World} {g N q : Nat} {xs : List Int} (h : IB W g N xs) : W.frozen? ⟨g, q, none⟩ = false := blk_frozen h.2 q
theorem made_ints (N : Nat) : madeCells #[.int .i64 0] N = ((List.replicate N (0 : Int)).map (Value.int .i64)).toArray := by
 unfold madeCells
 apply Array.ext
 ·simp
 ·intro i h1 h2
  simp [Nat.mod_one]
theorem IB.new (W : World) (N : Nat) : IB (W.alloc (.cells (madeCells #[.int .i64 0] N) 3)) W.heap.size N (List.replicate N 0) := ⟨List.length_replicate, by rw [made_ints]; exact blk_new W _⟩
theorem set_getD (xs : List Int) (q j : Nat) (v : Int) (hj : j < xs.length) : (xs.set j v).getD q 0 = if q = j then v else xs.getD q 0 := by
 rw [List.getD_eq_getElem?_getD, List.getElem?_set]
 by_cases h : q = j
 ·subst h; simp [hj]
 ·rw [if_neg (fun e => h e.symm), if_neg h, List.getD_eq_getElem?_getD]
theorem max_is (ub vb mm : Int) (h : max ub vb = mm) (ats : Array TypeId) (ty : TypeId) : Builtin.max_ ats ty #[.int .i64 ub, .int .i64 vb] = pure (.int .i64 mm) := by
 subst h
 have e : (if ub < vb then vb else ub) = max ub vb := by split <;> omega
 simp only [Builtin.max_, List.foldlM_cons, List.foldlM_nil, Builtin.max2, gt_iff_lt, e]
 rfl
theorem set_two {xs xs2 : List Int} {j : Nat} {u : Int} (v : Int) (hl : j < xs2.length) (h : ∀ q, xs2.getD q 0 = if q = j then u else xs.getD q 0) : ∀ q, (xs2.set j v).getD q 0 = if q = j then v else xs.getD q 0 := fun q => by
 rw [set_getD xs2 q j v hl]
 by_cases e : q = j
 ·rw [if_pos e, if_pos e]
 ·rw [if_neg e, if_neg e, h q, if_neg e]
theorem bare_eq (a : S25) : (((a.f0.size : Int) + (a.f1.length : Int)) == 0) = emptyA a := by
 unfold emptyA
 rw [Bool.eq_iff_iff, beq_iff_eq, Bool.and_eq_true, beq_iff_eq, beq_iff_eq]
 have h : a.f0.toList = [] ↔ a.f0.size = 0 := by
  rw [ByteArray.toList_eq]
  exact ⟨fun h => by have := congrArg List.length h; simpa using this, fun h => List.length_eq_zero_iff.1 (by simpa using h)⟩
 rw [h]
 omega
structure FI (w wr : World) (g h N j : Nat) (l : List S62) : Prop where
 ex : ∃ fr dp xs ys, fromsP (l.take j) 0 [] [] = some (fr, dp) ∧ fr.length = j ∧ dp.length = j ∧ (∀ q, q < j → 0 ≤ dp.getD q 0 ∧ dp.getD q 0 ≤ 12) ∧ IB wr g N xs ∧ IB wr h N ys ∧ (∀ q, q < j → xs.getD q 0 = fr.getD q 0) ∧ (∀ q, q < j → ys.getD q 0 = dp.getD q 0)
 bel : Go.RowKit.Below w.heap.size w wr
theorem FI.step {w w2 : World} {g h N j : Nat} {l : List S62} {fr dp xs ys : List Int} {a b : Int} (hj : j < l.length) (hN : j < N) (hq : fromsP (l.take j) 0 [] [] = some (fr, dp)) (hfl : fr.length = j) (hdl : dp.length = j) (hd : ∀ q, q < j → 0 ≤ dp.getD q 0 ∧ dp.getD q 0 ≤ 12) (hs : stepN l[j] j fr dp = some (a, b)) (hb : 0 ≤ b ∧ b ≤ 12)
  (hx : ∀ q, q < j → xs.getD q 0 = fr.getD q 0) (hy : ∀ q, q < j → ys.getD q 0 = dp.getD q 0) {xs2 ys2 : List Int} (h1 : IB w2 g N xs2) (h2 : IB w2 h N ys2) (hx2 : ∀ q, xs2.getD q 0 = if q = j then a else xs.getD q 0) (hy2 : ∀ q, ys2.getD q 0 = if q = j then b else ys.getD q 0) (hbel : Go.RowKit.Below w.heap.size w w2) : FI w w2 g h N (j + 1) l := by
 refine ⟨⟨fr ++ [a], dp ++ [b], xs2, ys2, by rw [froms_take hj hq, hs]; rfl, by simp [hfl], by simp [hdl], fun q hq => ?_, h1, h2, fun q hq => ?_, fun q hq => ?_⟩, hbel⟩
 ·by_cases e : q = j
  ·subst e; rw [← hdl, getD_at]; exact hb
  ·rw [getD_lt _ _ _ (by omega)]; exact hd q (by omega)
 ·rw [hx2]
  by_cases e : q = j
  ·rw [if_pos e, e, ← hfl, getD_at]
  ·rw [if_neg e, getD_lt _ _ _ (by omega)]; exact hx q (by omega)
 ·rw [hy2]
  by_cases e : q = j
  ·rw [if_pos e, e, ← hdl, getD_at]
  ·rw [if_neg e, getD_lt _ _ _ (by omega)]; exact hy q (by omega)
theorem cell_set {W : World} {g q : Nat} {v x : Value} {a : Addr} (h : W.cell? a = some x) (hne : a.block ≠ g) : (W.setCell ⟨g, q, none⟩ v).cell? a = some x := by
 have := Go.RowKit.Below.heap_setCell W ⟨g, q, none⟩ v a.block hne
 simpa [World.cell?, this] using h
end Go.Proofs.YtghommaokdhjmaaGreat.Sat
/- The reference's Formula: its walk. -/
namespace Go.Proofs.YtghommaokdhjmaaGreat.Sat
open Go.RowKit Go.Lib Go.Sort Go.Proofs.SymP Go.Proofs.YtghommaokdhjmaaGreatW.PrintWords P FactC IRow Frm SpecM SpecB PSat PSpec CmpF BothB SortStr Str
set_option maxHeartbeats 8000000 in
set_option maxRecDepth 1000000 in
theorem form_calls {A : Option Addr} {n c : Nat} {l : List S62} {w : World} (h : NRow w A n c l) (hf : fitNs l) : Calls Tryz.prog 21 #[.slice A n c] w fun e w' => e = .returned (.bool (decide (chkN l = 0))) ∧ Go.RowKit.Below w.heap.size w w' := by
 have hu := Tryz.underlying62
 have hu2 := Tryz.underlying25
 have hn := h.len
 by_cases hin : 1 ≤ n ∧ n ≤ 40
 case neg =>
  have HK : decide (chkN l = 0) = false := by unfold chkN; rw [if_pos (by omega)]; rfl
  rw [HK]
  have H47 : Aside0 (Calls Tryz.prog 47 #[.int .i64 (n : Int), .int .i64 1, .int .i64 40] w fun e w' => e = .returned (.bool false) ∧ Go.RowKit.Below w.heap.size w w') := ⟨by have := @cIn w (n : Int) 1 40; rwa [decide_eq_false (by omega)] at this⟩
  clear HK hf hn h hin
  go_enter Tryz.func21, Tryz.ntmps21
  go_wp2_with (first
   | (go_at_call 47; with_reducible refine H47.out.mono ?_; rintro e w1 ⟨rfl, hb⟩; have HB := Aside0.mk hb; clear hb)
   | fail)
  go_ret
  exact ⟨rfl, HB.out⟩
 obtain ⟨hn1, hn40⟩ := hin
 have H47 : Aside0 (Calls Tryz.prog 47 #[.int .i64 (n : Int), .int .i64 1, .int .i64 40] w fun e w' => e = .returned (.bool true) ∧ Go.RowKit.Below w.heap.size w w') := ⟨by have := @cIn w (n : Int) 1 40; rwa [decide_eq_true (by omega)] at this⟩
 have hmk := print_make_of (P := Tryz.prog) 80 3 (.int .i64 0) 8 Tryz.underlying80 infoI0 rfl (by decide) n (by omega)
 obtain ⟨res, hres⟩ : ∃ res, decide (chkN l = 0) = res := ⟨_, rfl⟩
 rw [hres]
 have HRES := Aside0.mk hres
 have HL := Aside0.mk h
 have HF := Aside0.mk hf
 have HN := Aside0.mk hn
 have hcap := h.cap
 clear hres h hf hn
 go_enter Tryz.func21, Tryz.ntmps21
 go_upto_region 3 with (first
  | (go_at_call 47; with_reducible refine H47.out.mono ?_; rintro e w1 ⟨rfl, hb⟩; have HB := Aside0.mk hb; clear hb)
  | fail)
 go_cut [3, 4] (fun v3 v4 wc => ∃ (g h : Nat), v3 = .slice (some ⟨g, 0, none⟩) n n ∧ v4 = .slice (some ⟨h, 0, none⟩) n n ∧ Aside0 (g ≠ h ∧ w.heap.size ≤ g ∧ w.heap.size ≤ h ∧ IB wc g n (List.replicate n 0) ∧ IB wc h n (List.replicate n 0) ∧ Go.RowKit.Below w.heap.size w wc))
 case first =>
  rename_i J K' hJ hK
  have e0 := IB.new w1 n
  have e1 := (IB.new w1 n).below ((Go.RowKit.Below.refl _ (w1.alloc (.cells (madeCells #[.int .i64 0] n) 3))).alloc (Nat.le_refl _) (.cells (madeCells #[.int .i64 0] n) 3))
  have e2 := IB.new (w1.alloc (.cells (madeCells #[.int .i64 0] n) 3)) n
  have hb2 : Go.RowKit.Below w.heap.size w ((w1.alloc (.cells (madeCells #[.int .i64 0] n) 3)).alloc (.cells (madeCells #[.int .i64 0] n) 3)).drew := below_drew1 ((HB.out.alloc HB.out.size _).alloc (Nat.le_trans HB.out.size (by simp)) _)
  have hs1 := HB.out.size
  rw [World.size_alloc] at e2
  go_region
  all_goals (refine hK _ _ (Met.intro (hJ _ _ ?_)); (repeat apply Exists.intro); refine ⟨?_, rfl⟩)
  ·exact ⟨_, _, rfl, rfl, ⟨by omega, hs1, by omega, e1, e2, hb2⟩⟩
  ·exact ⟨_, _, rfl, rfl, ⟨by omega, by omega, hs1, e2, e1, hb2⟩⟩
 case rest =>
  obtain ⟨g, h, rfl, rfl, HG⟩ := hcut
  have hgh := HG.out.1
  have hhg := hgh.symm
  have hgw := HG.out.2.1
  have hhw := HG.out.2.2.1
  have hfalse : chkN l ≠ 0 → res = false := fun h => by rw [← HRES.out]; exact decide_eq_false h
  go_wp2
  go_loopg [5] n (fun gg s5 wr => ∃ (j : Nat), s5 = .int .i64 j ∧ j ≤ n ∧ n - j ≤ gg ∧ Aside0 (FI w wr g h n j l))
  case atStart => exact ⟨0, rfl, Nat.zero_le _, Nat.le_refl _, ⟨⟨[], [], _, _, rfl, rfl, rfl, fun q hq => absurd hq (Nat.not_lt_zero _), HG.out.2.2.2.1, HG.out.2.2.2.2.1, fun q hq => absurd hq (Nat.not_lt_zero _), fun q hq => absurd hq (Nat.not_lt_zero _)⟩, HG.out.2.2.2.2.2⟩⟩
  case round =>
   obtain ⟨j, rfl, hj, hg, HI⟩ := hrel
   obtain ⟨⟨fr, dp, xs, ys, hq, hfl, hdl, hd, h1, h2, hx, hy⟩, hbel⟩ := HI.out
   clear HI
   by_cases hlt : j < n
   case neg =>
    obtain rfl : n = j := by omega
    have hlast := h1.cell (show n - 1 < n by omega)
    rw [hx (n - 1) (by omega)] at hlast
    have hv : (fr.getD (n - 1) 0 == 0) = res := by
     rw [← HRES.out]
     rw [List.take_of_length_le (by rw [HN.out]; exact Nat.le_refl _)] at hq
     have := chk_all (by rw [HN.out]; exact hn1) (by rw [HN.out]; exact hn40) hq (fun q h => (hd q (by rw [← HN.out]; exact h)).2)
     rw [HN.out] at this
     rw [this]; rfl
    have hltz : ¬ (n : Int) < (n : Int) := by omega
    have n1z : (0 : Int) ≤ (n : Int) - 1 := by omega
    have n1y : (n : Int) - 1 < (n : Int) := by omega
    have tn1 : ((n : Int) - 1).toNat = n - 1 := by omega
    have kw2 : IntKind.i64.wrap ((n : Int) - 1) = (n : Int) - 1 := kwrap (by omega) (by omega)
    have HBE := Aside0.mk hbel
    generalize fr.getD (n - 1) 0 = v at *
    clear hq hfl hdl hd h1 h2 hx hy hbel HRES hfalse
    go_wp2
    go_ret
    exact ⟨by first | rfl | rw [hv], HBE.out⟩
   have hltz : (j : Int) < (n : Int) := by omega
   have hj2 : j < l.length := by have := HN.out; omega
   obtain ⟨ad, A2, c2, eA, y0, y1, y2, y3, y4, y5, y6⟩ := at_T62 HL.out.C (j : Int) (by omega) hltz
   subst eA
   rw [rd62_get hj2] at y0 y1 y2 y3 y4 y5 y6
   have HX := HF.out.1 l[j] (List.getElem_mem hj2)
   obtain ⟨s, hs⟩ : ∃ s, stepN l[j] j fr dp = s := ⟨_, rfl⟩
   have hnone : s = none → res = false := fun h => hfalse (chk_step hj2 hq (hs.trans h))
   have hdeep : ∀ a b, s = some (a, b) → 12 < b → res = false := fun a b h hb => hfalse (chk_deep hj2 hq (hs.trans h) hb)
   have HSt : Aside0 (∀ (a b : Int) (w2 : World) (xs2 ys2 : List Int), s = some (a, b) → 0 ≤ b ∧ b ≤ 12 → IB w2 g n xs2 → IB w2 h n ys2 → (∀ q, xs2.getD q 0 = if q = j then a else xs.getD q 0) → (∀ q, ys2.getD q 0 = if q = j then b else ys.getD q 0) → Go.RowKit.Below w.heap.size w w2 → FI w w2 g h n (j + 1) l) := ⟨fun a b w2 xs2 ys2 h hb i1 i2 e1 e2 hbel => FI.step hj2 hlt hq hfl hdl hd (hs.trans h) hb hx hy i1 i2 e1 e2 hbel⟩
   have hxl := h1.1
   have hyl := h2.1
   have gx : ∀ q, q < j → xs.getD q 0 = fr.getD q 0 := hx
   have gy : ∀ q, q < j → ys.getD q 0 = dp.getD q 0 := hy
   have hok := (froms_ok _ _ _ _ _ _ hq okF_nil rfl).1
   generalize l[j] = x at *
   rw [show ((j : Int)).toNat * 5 = j * 5 by omega] at y0 y1 y2 y3 y4
   replace y0 := mvc hbel y0
   replace y1 := mvc hbel y1
   replace y2 := mvc hbel y2
   replace y3 := mvc hbel y3
   replace y4 := mvc hbel y4
   have HAT : Aside0 (∀ W, Go.RowKit.Below w.heap.size w W → Calls Tryz.prog 48 #[.agg #[.string x.f1.f0, .slice A2 x.f1.f1.length c2]] W fun e w' => e = .returned (.bool (decide (matP x.f1.f0 x.f1.f1 = 0))) ∧ Go.RowKit.Below W.heap.size W w') := ⟨fun W hW => cRAtom HX.1.1 HX.1.2 y5 (Kd.C_below y6 hW)⟩
   have hbare : (wrap64 ((x.f1.f0.size : Int) + (x.f1.f1.length : Int)) == 0) = emptyA x.f1 := by
    rw [show wrap64 ((x.f1.f0.size : Int) + (x.f1.f1.length : Int)) = (x.f1.f0.size : Int) + (x.f1.f1.length : Int) by have := HX.1.1; have := HX.2; unfold wrap64; omega]
    exact bare_eq x.f1
   have H1 : Aside0 (∀ W, Calls Tryz.prog 49 #[.int .i64 x.f0] W fun e w' => e = .returned (.bool (decide (arms x.f0 = 1))) ∧ Go.RowKit.Below W.heap.size W w') := ⟨fun W => cOne x.f0⟩
   have H2 : Aside0 (∀ W, Calls Tryz.prog 50 #[.int .i64 x.f0] W fun e w' => e = .returned (.bool (decide (arms x.f0 = 2))) ∧ Go.RowKit.Below W.heap.size W w') := ⟨fun W => cTwo x.f0⟩
   have hW : Go.RowKit.Below wr.heap.size wr (wr.alloc (.cells #[.int .i64 x.f0, .string x.f1.f0, .slice A2 x.f1.f1.length c2, .int .i64 x.f2, .int .i64 x.f3] 62)) := (Go.RowKit.Below.refl _ wr).alloc (Nat.le_refl _) _
   have hWw := hbel.trans (hW.mono hbel.size)
   have hgl := blk_lt h1.2
   have hhl := blk_lt h2.2
   have HSN := Aside0.mk hs
   have HFL := Aside0.mk hfl
   have gd := hd
   clear hq hfl hdl hd hs hfalse HRES
   go_upto_region 8 with fail
   refine wp_world (fun V => V.cell? ⟨wr.heap.size, 0, none⟩ = some (.int .i64 x.f0) ∧ V.cell? ⟨wr.heap.size, 1, none⟩ = some (.string x.f1.f0) ∧ V.cell? ⟨wr.heap.size, 2, none⟩ = some (.slice A2 x.f1.f1.length c2) ∧ V.cell? ⟨wr.heap.size, 3, none⟩ = some (.int .i64 x.f2) ∧ V.cell? ⟨wr.heap.size, 4, none⟩ = some (.int .i64 x.f3) ∧ IB V g n xs ∧ IB V h n ys ∧ Go.RowKit.Below w.heap.size w V) ⟨by simp, by simp, by simp, by simp, by simp, h1.below hW, h2.below hW, hWw⟩ ?_
   clear hW hWw y0 y1 y2 y3 y4 h1 h2
   have hbg : wr.heap.size ≠ g := by omega
   have hbh : wr.heap.size ≠ h := by omega
   clear hgl hhl hbel
   generalize wr.heap.size = gb at *
   rintro w1 ⟨z0, z1, z2, z3, z4, i1, i2, hb1⟩
   have k1 := i1.cell hlt
   have f1 : w1.frozen? ⟨g, j, none⟩ = false := i1.frozen
   have i2' := i2.other (g2 := g) hhg j (.int .i64 (j : Int))
   have k2 := i2'.cell hlt
   have f2 : (w1.setCell ⟨g, j, none⟩ (.int .i64 (j : Int))).frozen? ⟨h, j, none⟩ = false := i2'.frozen
   have hj0 : (0 : Int) ≤ (j : Int) := by omega
   go_upto_region 11 with fail
   (try rw [hbare])
   clear hbare
   refine wp_world (fun V => V.cell? ⟨gb, 0, none⟩ = some (.int .i64 x.f0) ∧ V.cell? ⟨gb, 1, none⟩ = some (.string x.f1.f0) ∧ V.cell? ⟨gb, 2, none⟩ = some (.slice A2 x.f1.f1.length c2) ∧ V.cell? ⟨gb, 3, none⟩ = some (.int .i64 x.f2) ∧ V.cell? ⟨gb, 4, none⟩ = some (.int .i64 x.f3) ∧ IB V g n (xs.set j (j : Int)) ∧ IB V h n (ys.set j 1) ∧ Go.RowKit.Below w.heap.size w V) ⟨cell_set (cell_set z0 hbg) hbh, cell_set (cell_set z1 hbg) hbh, cell_set (cell_set z2 hbg) hbh, cell_set (cell_set z3 hbg) hbh, cell_set (cell_set z4 hbg) hbh, (i1.set j _).other hgh j _, i2'.set j 1, below_set (below_set hb1 hgw) hhw⟩ ?_
   clear z0 z1 z2 z3 z4 k1 k2 f1 f2 i1 i2 i2' hb1
   rintro w2 ⟨z0, z1, z2, z3, z4, i1, i2, hb2⟩
   as_aux_lemma =>
   have HB := Aside0.mk hb2
   clear hb2
   have ex : ∀ q, (xs.set j (j : Int)).getD q 0 = if q = j then (j : Int) else xs.getD q 0 := fun q => set_getD xs q j _ (by omega)
   have ey : ∀ q, (ys.set j 1).getD q 0 = if q = j then 1 else ys.getD q 0 := fun q => set_getD ys q j _ (by omega)
   have hx2l : (xs.set j (j : Int)).length = n := i1.1
   have hy2l : (ys.set j 1).length = n := i2.1
   generalize xs.set j (j : Int) = xs2 at *
   generalize ys.set j 1 = ys2 at *
   have hways := step_ways HSN.out (fun q hq => (hok q (by have := HFL.out; omega)).1) rfl rfl rfl rfl
   generalize decide (matP x.f1.f0 x.f1.f1 = 0) = b0 at *
   generalize decide (arms x.f0 = 1) = b1 at *
   generalize decide (arms x.f0 = 2) = b2 at *
   generalize emptyA x.f1 = eb at *
   have kwj : IntKind.i64.wrap ((j : Int) - 1) = (j : Int) - 1 := kwrap (by omega) (by omega)
   have kwj2 : IntKind.i64.wrap ((j : Int) + 1) = (j : Int) + 1 := kwrap (by omega) (by omega)
   clear HSN
   rcases hways with ⟨d1, rfl, hn⟩ | ⟨d1, rfl, d2, hn⟩ | ⟨d1, rfl, d2, d3, hn⟩ | ⟨d1, rfl, rfl, hn⟩ | ⟨d1, rfl, rfl, d2, hn⟩ | ⟨d1, rfl, rfl, d2, d3, hn⟩ | ⟨d1, rfl, rfl, d2, d3, d4, hn⟩ | ⟨d1, rfl, rfl, hn⟩ | hways
   iterate 8 (focus (
    obtain rfl := hnone hn
    clear HSt hnone hdeep hn gx gy gd hok ex ey hx hy
    go_wp2_with (first
     | (go_at_call 48; with_reducible refine (HAT.out _ HB.out).mono ?_; rintro e w3 ⟨rfl, hb⟩; replace HB := Aside0.mk (HB.out.trans (hb.mono HB.out.size)); replace i1 := i1.below hb; replace i2 := i2.below hb; replace z0 := mvc hb z0; replace z1 := mvc hb z1; replace z2 := mvc hb z2; replace z3 := mvc hb z3; replace z4 := mvc hb z4; clear hb)
     | (go_at_call 49; with_reducible refine (H1.out _).mono ?_; rintro e w4 ⟨rfl, hb⟩; replace HB := Aside0.mk (HB.out.trans (hb.mono HB.out.size)); replace i1 := i1.below hb; replace i2 := i2.below hb; replace z0 := mvc hb z0; replace z1 := mvc hb z1; replace z2 := mvc hb z2; replace z3 := mvc hb z3; replace z4 := mvc hb z4; clear hb)
     | (go_at_call 50; with_reducible refine (H2.out _).mono ?_; rintro e w5 ⟨rfl, hb⟩; replace HB := Aside0.mk (HB.out.trans (hb.mono HB.out.size)); replace i1 := i1.below hb; replace i2 := i2.below hb; replace z0 := mvc hb z0; replace z1 := mvc hb z1; replace z2 := mvc hb z2; replace z3 := mvc hb z3; replace z4 := mvc hb z4; clear hb)
     | fail)
    go_ret
    exact ⟨rfl, HB.out⟩))
   rcases hways with ⟨d1, rfl, d2, d3, hs⟩ | hways
   ·go_upto_region 22 with (first
     | (go_at_call 48; with_reducible refine (HAT.out _ HB.out).mono ?_; rintro e w3 ⟨rfl, hb⟩; replace HB := Aside0.mk (HB.out.trans (hb.mono HB.out.size)); replace i1 := i1.below hb; replace i2 := i2.below hb; replace z0 := mvc hb z0; replace z1 := mvc hb z1; replace z2 := mvc hb z2; replace z3 := mvc hb z3; replace z4 := mvc hb z4; clear hb)
     | (go_at_call 49; with_reducible refine (H1.out _).mono ?_; rintro e w4 ⟨rfl, hb⟩; replace HB := Aside0.mk (HB.out.trans (hb.mono HB.out.size)); replace i1 := i1.below hb; replace i2 := i2.below hb; replace z0 := mvc hb z0; replace z1 := mvc hb z1; replace z2 := mvc hb z2; replace z3 := mvc hb z3; replace z4 := mvc hb z4; clear hb)
     | (go_at_call 50; with_reducible refine (H2.out _).mono ?_; rintro e w5 ⟨rfl, hb⟩; replace HB := Aside0.mk (HB.out.trans (hb.mono HB.out.size)); replace i1 := i1.below hb; replace i2 := i2.below hb; replace z0 := mvc hb z0; replace z1 := mvc hb z1; replace z2 := mvc hb z2; replace z3 := mvc hb z3; replace z4 := mvc hb z4; clear hb)
     | fail)
    have kd := i2.cell hlt
    rw [ey j, if_pos rfl] at kd
    have HE := Aside0.mk (HSt.out (j : Int) 1 _ xs2 ys2 hs (by decide) i1 i2 ex ey HB.out)
    clear HSt hnone hdeep hs gx gy gd hok ex ey hx hy
    go_wp2
    go_roundg (n - (j + 1))
    case measure => omega
    case rel => exact ⟨j + 1, by go_num, by omega, by omega, HE⟩
   rcases hways with ⟨d1, rfl, rfl, d2, hf2, d3, hs⟩ | hways
   ·have hj1 : j ≠ 0 := by intro e; subst e; simp at d2
    obtain ⟨jm, hjm, hjm2⟩ : ∃ jm : Nat, (jm : Int) = (j : Int) - 1 ∧ j - 1 = jm := ⟨j - 1, by omega, rfl⟩
    rw [← hjm] at hf2
    rw [hf2] at z3
    rw [hjm2] at hs
    have d4 : ((jm : Int) != (j : Int) - 1) = false := by rw [hjm]; exact bne_self_eq_false _
    have gxm := gx jm (by omega)
    have gym := gy jm (by omega)
    have gdm := gd jm (by omega)
    have exm := ex jm
    have eym := ey jm
    rw [if_neg (by omega), gxm] at exm
    rw [if_neg (by omega), gym] at eym
    generalize fr.getD jm 0 = va at *
    generalize dp.getD jm 0 = vb at *
    clear gx gy gd gxm gym hok hnone hx hy
    go_upto_region 17 with (first
     | (go_at_call 48; with_reducible refine (HAT.out _ HB.out).mono ?_; rintro e w3 ⟨rfl, hb⟩; replace HB := Aside0.mk (HB.out.trans (hb.mono HB.out.size)); replace i1 := i1.below hb; replace i2 := i2.below hb; replace z0 := mvc hb z0; replace z1 := mvc hb z1; replace z2 := mvc hb z2; replace z3 := mvc hb z3; replace z4 := mvc hb z4; clear hb)
     | (go_at_call 49; with_reducible refine (H1.out _).mono ?_; rintro e w4 ⟨rfl, hb⟩; replace HB := Aside0.mk (HB.out.trans (hb.mono HB.out.size)); replace i1 := i1.below hb; replace i2 := i2.below hb; replace z0 := mvc hb z0; replace z1 := mvc hb z1; replace z2 := mvc hb z2; replace z3 := mvc hb z3; replace z4 := mvc hb z4; clear hb)
     | (go_at_call 50; with_reducible refine (H2.out _).mono ?_; rintro e w5 ⟨rfl, hb⟩; replace HB := Aside0.mk (HB.out.trans (hb.mono HB.out.size)); replace i1 := i1.below hb; replace i2 := i2.below hb; replace z0 := mvc hb z0; replace z1 := mvc hb z1; replace z2 := mvc hb z2; replace z3 := mvc hb z3; replace z4 := mvc hb z4; clear hb)
     | fail)
    have ca := i1.cell (q := jm) (by omega)
    have cb := i2.cell (q := jm) (by omega)
    rw [exm] at ca
    rw [eym] at cb
    refine wp_world (fun V => V.cell? ⟨gb, 2 + 1, none⟩ = some (.int .i64 (jm : Int)) ∧ V.cell? ⟨g, jm, none⟩ = some (.int .i64 va) ∧ V.cell? ⟨h, jm, none⟩ = some (.int .i64 vb) ∧ IB V g n xs2 ∧ IB V h n ys2 ∧ Go.RowKit.Below w.heap.size w V) ⟨z3, ca, cb, i1, i2, HB.out⟩ ?_
    clear z0 z1 z2 z3 z4 ca cb i1 i2 HB
    rintro w6 ⟨z3, ca, cb, i1, i2, hb6⟩
    as_aux_lemma =>
    have kg := i1.cell hlt
    have kh := i2.cell hlt
    have fg : w6.frozen? ⟨g, j, none⟩ = false := i1.frozen
    have fh : w6.frozen? ⟨h, j, none⟩ = false := i2.frozen
    have i2g := i2.other (g2 := g) hhg j (.int .i64 va)
    have i1h := i1.other (g2 := h) hgh j (.int .i64 (vb + 1))
    have kwb : IntKind.i64.wrap (vb + 1) = vb + 1 := kwrap (by omega) (by omega)
    have jm0 : (0 : Int) ≤ (jm : Int) := by omega
    have jmn : (jm : Int) < (n : Int) := by omega
    have khg := i2g.cell hlt
    have khm := i2g.cell (q := jm) (by omega)
    have fhg : (w6.setCell ⟨g, j, none⟩ (.int .i64 va)).frozen? ⟨h, j, none⟩ = false := i2g.frozen
    have kgh := i1h.cell hlt
    have kgm := i1h.cell (q := jm) (by omega)
    have fgh : (w6.setCell ⟨h, j, none⟩ (.int .i64 (vb + 1))).frozen? ⟨g, j, none⟩ = false := i1h.frozen
    have z3g := cell_set (v := .int .i64 va) (q := j) z3 hbg
    have z3h := cell_set (v := .int .i64 (vb + 1)) (q := j) z3 hbh
    rw [exm] at kgm
    rw [eym] at khm
    have HI := Aside0.mk (And.intro i1 i2)
    have HB := Aside0.mk hb6
    have HEE := Aside0.mk (And.intro ex ey)
    have HS2 := Aside0.mk hs
    clear i1 i2 i2g i1h hb6 ex ey exm eym hs
    go_region
    all_goals go_upto_region 22 with fail
    all_goals (
     refine wp_world (fun V => IB V g n (xs2.set j va) ∧ IB V h n (ys2.set j (vb + 1)) ∧ Go.RowKit.Below w.heap.size w V) ⟨by first | exact (HI.out.1.set j va).other hgh j _ | exact (HI.out.1.other hgh j _).set j va, by first | exact (HI.out.2.other hhg j _).set j (vb + 1) | exact (HI.out.2.set j (vb + 1)).other hhg j _, by first | exact below_drew1 (below_set (below_set HB.out hgw) hhw) | exact below_drew1 (below_set (below_set HB.out hhw) hgw)⟩ ?_
     clear kg kh fg fh khg khm fhg kgh kgm fgh z3g z3h z3 ca cb HI HB
     rintro w7 ⟨i1, i2, hb7⟩
     as_aux_lemma =>
     have HB := Aside0.mk hb7
     have kd := i2.cell hlt
     have sx := set_two va (by omega) HEE.out.1
     have sy := set_two (vb + 1) (by omega) HEE.out.2
     rw [sy j, if_pos rfl] at kd
     by_cases hb12 : vb + 1 ≤ 12
     ·have dd : decide (12 < vb + 1) = false := decide_eq_false (by omega)
      have HE := Aside0.mk (HSt.out va (vb + 1) w7 _ _ HS2.out ⟨by omega, hb12⟩ i1 i2 sx sy hb7)
      clear HSt hdeep HS2 HEE sx sy i1 i2 hb7
      go_wp2
      go_roundg (n - (j + 1))
      case measure => omega
      case rel => exact ⟨j + 1, by go_num, by omega, by omega, HE⟩
     ·have dd : decide (12 < vb + 1) = true := decide_eq_true (by omega)
      obtain rfl := hdeep va (vb + 1) HS2.out (by omega)
      clear HSt hdeep HS2 HEE sx sy i1 i2 hb7
      go_wp2
      go_ret
      exact ⟨rfl, HB.out⟩)
   rcases hways with ⟨d1, rfl, rfl, rfl, hn⟩ | ⟨d1, rfl, rfl, rfl, d2, hn⟩ | ⟨d1, rfl, rfl, rfl, d2, d3, hn⟩ | hways
   iterate 3 (focus (
    obtain rfl := hnone hn
    clear HSt hnone hdeep hn gx gy gd hok ex ey hx hy
    go_upto_region 19 with (first
     | (go_at_call 48; with_reducible refine (HAT.out _ HB.out).mono ?_; rintro e w3 ⟨rfl, hb⟩; replace HB := Aside0.mk (HB.out.trans (hb.mono HB.out.size)); replace i1 := i1.below hb; replace i2 := i2.below hb; replace z0 := mvc hb z0; replace z1 := mvc hb z1; replace z2 := mvc hb z2; replace z3 := mvc hb z3; replace z4 := mvc hb z4; clear hb)
     | (go_at_call 49; with_reducible refine (H1.out _).mono ?_; rintro e w4 ⟨rfl, hb⟩; replace HB := Aside0.mk (HB.out.trans (hb.mono HB.out.size)); replace i1 := i1.below hb; replace i2 := i2.below hb; replace z0 := mvc hb z0; replace z1 := mvc hb z1; replace z2 := mvc hb z2; replace z3 := mvc hb z3; replace z4 := mvc hb z4; clear hb)
     | (go_at_call 50; with_reducible refine (H2.out _).mono ?_; rintro e w5 ⟨rfl, hb⟩; replace HB := Aside0.mk (HB.out.trans (hb.mono HB.out.size)); replace i1 := i1.below hb; replace i2 := i2.below hb; replace z0 := mvc hb z0; replace z1 := mvc hb z1; replace z2 := mvc hb z2; replace z3 := mvc hb z3; replace z4 := mvc hb z4; clear hb)
     | fail)
    go_quiet (fail)
    go_wp2
    go_ret
    exact ⟨rfl, by repeat (first | exact HB.out | apply pw_below_drewN | apply below_drew1)⟩))
   have hj1 : j ≠ 0 := by
    intro e
    rcases hways with h | h | h
    ·have := h.2.2.2.2.1; subst e; simp at this
    ·have := h.2.2.2.2.1; subst e; simp at this
    ·have := h.2.2.2.2.1; subst e; simp at this
   obtain ⟨jm, hjm, hjm2⟩ : ∃ jm : Nat, (jm : Int) = (j : Int) - 1 ∧ j - 1 = jm := ⟨j - 1, by omega, rfl⟩
   rw [← hjm, hjm2] at hways
   have d4 : ((jm : Int) != (j : Int) - 1) = false := by rw [hjm]; exact bne_self_eq_false _
   have gxm := gx jm (by omega)
   have gym := gy jm (by omega)
   have gdm := gd jm (by omega)
   have exm := ex jm
   have eym := ey jm
   rw [if_neg (by omega), gxm] at exm
   rw [if_neg (by omega), gym] at eym
   have hokm := hok jm (by have := HFL.out; omega)
   have jm0 : (0 : Int) ≤ (jm : Int) := by omega
   have jmn : (jm : Int) < (n : Int) := by omega
   rcases hways with ⟨d1, rfl, rfl, rfl, d2, hf3, hva, hn⟩ | ⟨d1, rfl, rfl, rfl, d2, hf3, hva, d5, hn⟩ | ⟨d1, rfl, rfl, rfl, d2, hf3, hva, hf2, hs⟩
   ·obtain rfl := hnone hn
    rw [hf3] at z4
    rw [hva] at exm
    clear HSt hnone hdeep hn gx gy gd gxm gym gdm eym hok hokm hva hx hy
    go_upto_region 19 with (first
     | (go_at_call 48; with_reducible refine (HAT.out _ HB.out).mono ?_; rintro e w3 ⟨rfl, hb⟩; replace HB := Aside0.mk (HB.out.trans (hb.mono HB.out.size)); replace i1 := i1.below hb; replace i2 := i2.below hb; replace z0 := mvc hb z0; replace z1 := mvc hb z1; replace z2 := mvc hb z2; replace z3 := mvc hb z3; replace z4 := mvc hb z4; clear hb)
     | (go_at_call 49; with_reducible refine (H1.out _).mono ?_; rintro e w4 ⟨rfl, hb⟩; replace HB := Aside0.mk (HB.out.trans (hb.mono HB.out.size)); replace i1 := i1.below hb; replace i2 := i2.below hb; replace z0 := mvc hb z0; replace z1 := mvc hb z1; replace z2 := mvc hb z2; replace z3 := mvc hb z3; replace z4 := mvc hb z4; clear hb)
     | (go_at_call 50; with_reducible refine (H2.out _).mono ?_; rintro e w5 ⟨rfl, hb⟩; replace HB := Aside0.mk (HB.out.trans (hb.mono HB.out.size)); replace i1 := i1.below hb; replace i2 := i2.below hb; replace z0 := mvc hb z0; replace z1 := mvc hb z1; replace z2 := mvc hb z2; replace z3 := mvc hb z3; replace z4 := mvc hb z4; clear hb)
     | fail)
    have ca := i1.cell (q := jm) (by omega)
    rw [exm] at ca
    go_quiet (fail)
    go_wp2
    go_ret
    exact ⟨rfl, by repeat (first | exact HB.out | apply pw_below_drewN | apply below_drew1)⟩
   ·obtain rfl := hnone hn
    rw [hf3] at z4
    generalize fr.getD jm 0 = va at *
    have d6 : (va == 0) = false := beq_false_of_ne (by omega)
    have kwa : IntKind.i64.wrap (va - 1) = va - 1 := kwrap (by omega) (by omega)
    clear HSt hnone hdeep hn gx gy gd gxm gym gdm eym hok hx hy
    go_upto_region 19 with (first
     | (go_at_call 48; with_reducible refine (HAT.out _ HB.out).mono ?_; rintro e w3 ⟨rfl, hb⟩; replace HB := Aside0.mk (HB.out.trans (hb.mono HB.out.size)); replace i1 := i1.below hb; replace i2 := i2.below hb; replace z0 := mvc hb z0; replace z1 := mvc hb z1; replace z2 := mvc hb z2; replace z3 := mvc hb z3; replace z4 := mvc hb z4; clear hb)
     | (go_at_call 49; with_reducible refine (H1.out _).mono ?_; rintro e w4 ⟨rfl, hb⟩; replace HB := Aside0.mk (HB.out.trans (hb.mono HB.out.size)); replace i1 := i1.below hb; replace i2 := i2.below hb; replace z0 := mvc hb z0; replace z1 := mvc hb z1; replace z2 := mvc hb z2; replace z3 := mvc hb z3; replace z4 := mvc hb z4; clear hb)
     | (go_at_call 50; with_reducible refine (H2.out _).mono ?_; rintro e w5 ⟨rfl, hb⟩; replace HB := Aside0.mk (HB.out.trans (hb.mono HB.out.size)); replace i1 := i1.below hb; replace i2 := i2.below hb; replace z0 := mvc hb z0; replace z1 := mvc hb z1; replace z2 := mvc hb z2; replace z3 := mvc hb z3; replace z4 := mvc hb z4; clear hb)
     | fail)
    have ca := i1.cell (q := jm) (by omega)
    rw [exm] at ca
    go_quiet (fail)
    go_wp2
    go_ret
    exact ⟨rfl, by repeat (first | exact HB.out | apply pw_below_drewN | apply below_drew1)⟩
   ·rw [hf3] at z4
    have kwa : IntKind.i64.wrap (fr.getD jm 0 - 1) = fr.getD jm 0 - 1 := kwrap (by omega) (by omega)
    obtain ⟨am, ham⟩ : ∃ am : Nat, (am : Int) = fr.getD jm 0 - 1 := ⟨(fr.getD jm 0 - 1).toNat, by omega⟩
    have haj : am < jm := by omega
    rw [hf2, ← ham] at z3
    rw [hf2, hf3, ← ham, Int.toNat_natCast, Int.toNat_natCast] at hs
    have d5 : ((am : Int) != fr.getD jm 0 - 1) = false := by rw [ham]; exact bne_self_eq_false _
    have gxa := gx am (by omega)
    have gya := gy am (by omega)
    have gda := gd am (by omega)
    have exa := ex am
    have eya := ey am
    rw [if_neg (by omega), gxa] at exa
    rw [if_neg (by omega), gya] at eya
    have d6 : (fr.getD jm 0 == 0) = false := beq_false_of_ne (by omega)
    generalize fr.getD jm 0 = va at *
    generalize fr.getD am 0 = ua at *
    generalize dp.getD jm 0 = vb at *
    generalize dp.getD am 0 = ub at *
    clear gx gy gd gxm gym gxa gya hok hnone hx hy ham hf2 hf3 hokm
    go_upto_region 19 with (first
     | (go_at_call 48; with_reducible refine (HAT.out _ HB.out).mono ?_; rintro e w3 ⟨rfl, hb⟩; replace HB := Aside0.mk (HB.out.trans (hb.mono HB.out.size)); replace i1 := i1.below hb; replace i2 := i2.below hb; replace z0 := mvc hb z0; replace z1 := mvc hb z1; replace z2 := mvc hb z2; replace z3 := mvc hb z3; replace z4 := mvc hb z4; clear hb)
     | (go_at_call 49; with_reducible refine (H1.out _).mono ?_; rintro e w4 ⟨rfl, hb⟩; replace HB := Aside0.mk (HB.out.trans (hb.mono HB.out.size)); replace i1 := i1.below hb; replace i2 := i2.below hb; replace z0 := mvc hb z0; replace z1 := mvc hb z1; replace z2 := mvc hb z2; replace z3 := mvc hb z3; replace z4 := mvc hb z4; clear hb)
     | (go_at_call 50; with_reducible refine (H2.out _).mono ?_; rintro e w5 ⟨rfl, hb⟩; replace HB := Aside0.mk (HB.out.trans (hb.mono HB.out.size)); replace i1 := i1.below hb; replace i2 := i2.below hb; replace z0 := mvc hb z0; replace z1 := mvc hb z1; replace z2 := mvc hb z2; replace z3 := mvc hb z3; replace z4 := mvc hb z4; clear hb)
     | fail)
    have ca := i1.cell (q := jm) (by omega)
    have cb := i2.cell (q := jm) (by omega)
    have da := i1.cell (q := am) (by omega)
    have db := i2.cell (q := am) (by omega)
    rw [exm] at ca
    rw [eym] at cb
    rw [exa] at da
    rw [eya] at db
    go_quiet (fail)
    go_upto_region 21 with fail
    have hmx0 : 0 ≤ max ub vb ∧ max ub vb ≤ 12 := by omega
    have hmx := max_is ub vb _ rfl
    generalize max ub vb = mm at *
    refine wp_world (fun V => V.cell? ⟨gb, 2 + 1, none⟩ = some (.int .i64 (am : Int)) ∧ V.cell? ⟨gb, 3 + 1, none⟩ = some (.int .i64 (jm : Int)) ∧ V.cell? ⟨g, am, none⟩ = some (.int .i64 ua) ∧ V.cell? ⟨h, am, none⟩ = some (.int .i64 ub) ∧ V.cell? ⟨h, jm, none⟩ = some (.int .i64 vb) ∧ IB V g n xs2 ∧ IB V h n ys2 ∧ Go.RowKit.Below w.heap.size w V) ⟨z3, z4, da, db, cb, i1, i2, by repeat (first | exact HB.out | apply pw_below_drewN | apply below_drew1)⟩ ?_
    clear z0 z1 z2 z3 z4 ca cb da db i1 i2 HB
    rintro w6 ⟨z3, z4, da, db, cb, i1, i2, hb6⟩
    as_aux_lemma =>
    have kg := i1.cell hlt
    have kh := i2.cell hlt
    have fg : w6.frozen? ⟨g, j, none⟩ = false := i1.frozen
    have fh : w6.frozen? ⟨h, j, none⟩ = false := i2.frozen
    have i2g := i2.other (g2 := g) hhg j (.int .i64 ua)
    have i1h := i1.other (g2 := h) hgh j (.int .i64 (mm + 1))
    have kwb : IntKind.i64.wrap (mm + 1) = mm + 1 := kwrap (by omega) (by omega)
    have am0 : (0 : Int) ≤ (am : Int) := by omega
    have amn : (am : Int) < (n : Int) := by omega
    have khg := i2g.cell hlt
    have khm := i2g.cell (q := jm) (by omega)
    have kha := i2g.cell (q := am) (by omega)
    have fhg : (w6.setCell ⟨g, j, none⟩ (.int .i64 ua)).frozen? ⟨h, j, none⟩ = false := i2g.frozen
    have kgh := i1h.cell hlt
    have kga := i1h.cell (q := am) (by omega)
    have fgh : (w6.setCell ⟨h, j, none⟩ (.int .i64 (mm + 1))).frozen? ⟨g, j, none⟩ = false := i1h.frozen
    have z3g := cell_set (v := .int .i64 ua) (q := j) z3 hbg
    have z4g := cell_set (v := .int .i64 ua) (q := j) z4 hbg
    have z3h := cell_set (v := .int .i64 (mm + 1)) (q := j) z3 hbh
    rw [exa] at kga
    rw [eym] at khm
    rw [eya] at kha
    have HI := Aside0.mk (And.intro i1 i2)
    have HB := Aside0.mk hb6
    have HEE := Aside0.mk (And.intro ex ey)
    have HS2 := Aside0.mk hs
    clear i1 i2 i2g i1h hb6 ex ey exm eym exa eya hs gdm gda
    go_region
    all_goals go_upto_region 22 with fail
    all_goals (
     refine wp_world (fun V => IB V g n (xs2.set j ua) ∧ IB V h n (ys2.set j (mm + 1)) ∧ Go.RowKit.Below w.heap.size w V) ⟨by first | exact (HI.out.1.set j ua).other hgh j _ | exact (HI.out.1.other hgh j _).set j ua, by first | exact (HI.out.2.other hhg j _).set j (mm + 1) | exact (HI.out.2.set j (mm + 1)).other hhg j _, by first | exact below_drew1 (below_set (below_set HB.out hgw) hhw) | exact below_drew1 (below_set (below_set HB.out hhw) hgw)⟩ ?_
     clear kg kh fg fh khg khm kha fhg kgh kga fgh z3g z4g z3h z3 z4 da db cb HI HB
     rintro w7 ⟨i1, i2, hb7⟩
     as_aux_lemma =>
     have HB := Aside0.mk hb7
     have kd := i2.cell hlt
     have sx := set_two ua (by omega) HEE.out.1
     have sy := set_two (mm + 1) (by omega) HEE.out.2
     rw [sy j, if_pos rfl] at kd
     obtain ⟨hm0, hm12⟩ := hmx0
     clear d2 d4 d5 d6 kwa hva hmx am0 amn jm0 jmn haj hjm hjm2 hj1 kwj hbg hbh hgh hhg
     by_cases hb12 : mm + 1 ≤ 12
     ·have dd : decide (12 < mm + 1) = false := decide_eq_false (by omega)
      have HE := Aside0.mk (HSt.out ua (mm + 1) w7 _ _ HS2.out ⟨by omega, hb12⟩ i1 i2 sx sy hb7)
      clear HSt hdeep HS2 HEE sx sy i1 i2 hb7
      go_wp2
      go_roundg (n - (j + 1))
      case measure => omega
      case rel => exact ⟨j + 1, by go_num, by omega, by omega, HE⟩
     ·have dd : decide (12 < mm + 1) = true := decide_eq_true (by omega)
      obtain rfl := hdeep ua (mm + 1) HS2.out (by omega)
      clear HSt hdeep HS2 HEE sx sy i1 i2 hb7
      go_wp2
      go_ret
      exact ⟨rfl, HB.out⟩)
end Go.Proofs.YtghommaokdhjmaaGreat.Sat
/- The reference's Sat: of a node of a right formula it answers the node's row. -/
namespace Go.Proofs.YtghommaokdhjmaaGreat.Sat
open Go.RowKit Go.Lib Go.Sort Go.Proofs.SymP Go.Proofs.YtghommaokdhjmaaGreatW.PrintWords P FactC IRow Frm SpecM SpecB PSat PSpec CmpF BothB SortStr Str
theorem onceR_true {f : Nat → Bool} {j : Nat} (h : f j = true) : ∀ i, j ≤ i → onceR f i = true
 | 0, hi => by
  obtain rfl : j = 0 := by omega
  exact h
 | i + 1, hi => by
  rw [onceR]
  by_cases e : j = i + 1
  ·rw [← e, h, Bool.or_true]
  ·rw [onceR_true h i (by omega), Bool.true_or]
theorem onceR_false {f : Nat → Bool} : ∀ i, (∀ q, q ≤ i → f q = false) → onceR f i = false
 | 0, h => h 0 (Nat.le_refl _)
 | i + 1, h => by rw [onceR, onceR_false i (fun q hq => h q (by omega)), h (i + 1) (Nat.le_refl _)]; rfl
theorem alwaysR_false {f : Nat → Bool} {j : Nat} (h : f j = false) : ∀ i, j ≤ i → alwaysR f i = false
 | 0, hi => by
  obtain rfl : j = 0 := by omega
  exact h
 | i + 1, hi => by
  rw [alwaysR]
  by_cases e : j = i + 1
  ·rw [← e, h, Bool.false_and]
  ·rw [alwaysR_false h i (by omega), Bool.and_false]
theorem alwaysR_true {f : Nat → Bool} : ∀ i, (∀ q, q ≤ i → f q = true) → alwaysR f i = true
 | 0, h => h 0 (Nat.le_refl _)
 | i + 1, h => by rw [alwaysR, alwaysR_true i (fun q hq => h q (by omega)), h (i + 1) (Nat.le_refl _)]; rfl
abbrev Rs (w : World) (A T B : Option Addr) (n c tn tc bn bc : Nat) (q : Nat) (f : Nat → Bool) : Prop := ∀ p, p < tn → ∀ W, Go.RowKit.Below w.heap.size w W → Calls Tryz.prog 25 #[.slice A n c, .int .i64 (q : Int), .slice T tn tc, .int .i64 (p : Int), .slice B bn bc] W fun e w' => e = .returned (.bool (f p)) ∧ Go.RowKit.Below W.heap.size W w'
theorem Rs.up {w w0 : World} {A T B : Option Addr} {n c tn tc bn bc q : Nat} {f : Nat → Bool} (h : Rs w A T B n c tn tc bn bc q f) (hb : Go.RowKit.Below w.heap.size w w0) : Rs w0 A T B n c tn tc bn bc q f := fun p hp W hW => h p hp W (hb.trans (hW.mono hb.size))
section
variable {w : World} {A T B : Option Addr} {n c tn tc bn bc : Nat} {l : List S62} {t : List S58}
set_option maxHeartbeats 8000000 in
set_option maxRecDepth 1000000 in
theorem sat_neg (htn : tn ≤ 1000000) (hl : NRow w A n c l) {q a b : Nat} (hq : q < n) {x : S62} (hx : rd_T62 l (q : Int) = x) (hk : x.f0 = 2) (ha : x.f2 = (a : Int)) {fA : Nat → Bool} (HA : Rs w A T B n c tn tc bn bc a fA) : Rs w A T B n c tn tc bn bc q (fun p => !fA p) := by
 intro p hp w0 hw0
 have hu := Tryz.underlying62
 have hcap := hl.cap
 have hq1 : (0 : Int) ≤ (q : Int) := by omega
 have hq2 : (q : Int) < (n : Int) := by omega
 have H1 := Aside0.mk (HA.up hw0)
 obtain ⟨ad, A2, c2, eA, y0, y1, y2, y3, y4, y5, y6⟩ := at_T62 (hl.below hw0).C (q : Int) (by omega) (by omega)
 subst eA
 rw [hx] at y0 y1 y2 y3 y4 y5 y6
 rw [hk] at y0
 rw [show ((q : Int)).toNat * 5 = q * 5 by omega] at y0 y1 y2 y3 y4
 go_enter Tryz.func25, Tryz.ntmps25
 go_upto_region 2 with fail
 refine wp_world (fun V => V.cell? ⟨w0.heap.size, 0, none⟩ = some (.int .i64 2) ∧ V.cell? ⟨w0.heap.size, 1, none⟩ = some (.string x.f1.f0) ∧ V.cell? ⟨w0.heap.size, 2, none⟩ = some (.slice A2 x.f1.f1.length c2) ∧ V.cell? ⟨w0.heap.size, 3, none⟩ = some (.int .i64 x.f2) ∧ V.cell? ⟨w0.heap.size, 4, none⟩ = some (.int .i64 x.f3) ∧ Go.RowKit.Below w0.heap.size w0 V) ⟨by simp, by simp, by simp, by first | (simp; done) | simp [ha], by simp, (Go.RowKit.Below.refl _ w0).alloc (Nat.le_refl _) _⟩ ?_
 clear y0 y1 y2 y3 y4
 generalize hg1 : w0.heap.size = g1
 rintro w2 ⟨z0, z1, z2, z3, z4, hb2⟩
 rw [← hg1] at hb2
 have HB2 := Aside0.mk hb2
 clear hb2 hg1
 rw [ha] at z3
 clear ha HA
 go_wp2_with (first
  | (go_at_call 25; with_reducible refine (H1.out _ hp _ HB2.out).mono ?_; rintro e w3 ⟨rfl, hb⟩; replace HB2 := Aside0.mk (HB2.out.trans (hb.mono HB2.out.size)); replace z0 := mvc hb z0; replace z3 := mvc hb z3; replace z4 := mvc hb z4; clear hb)
  | fail)
 go_ret
 exact ⟨rfl, HB2.out⟩
set_option maxHeartbeats 8000000 in
set_option maxRecDepth 1000000 in
theorem sat_and (htn : tn ≤ 1000000) (hl : NRow w A n c l) {q a b : Nat} (hq : q < n) {x : S62} (hx : rd_T62 l (q : Int) = x) (hk : x.f0 = 3) (ha : x.f2 = (a : Int)) {fA : Nat → Bool} (HA : Rs w A T B n c tn tc bn bc a fA) (hb : x.f3 = (b : Int)) {fB : Nat → Bool} (HB : Rs w A T B n c tn tc bn bc b fB) : Rs w A T B n c tn tc bn bc q (fun p => fA p && fB p) := by
 intro p hp w0 hw0
 have hu := Tryz.underlying62
 have hcap := hl.cap
 have hq1 : (0 : Int) ≤ (q : Int) := by omega
 have hq2 : (q : Int) < (n : Int) := by omega
 have H1 := Aside0.mk (HA.up hw0)
 have H2 := Aside0.mk (HB.up hw0)
 obtain ⟨ad, A2, c2, eA, y0, y1, y2, y3, y4, y5, y6⟩ := at_T62 (hl.below hw0).C (q : Int) (by omega) (by omega)
 subst eA
 rw [hx] at y0 y1 y2 y3 y4 y5 y6
 rw [hk] at y0
 rw [show ((q : Int)).toNat * 5 = q * 5 by omega] at y0 y1 y2 y3 y4
 go_enter Tryz.func25, Tryz.ntmps25
 go_upto_region 2 with fail
 refine wp_world (fun V => V.cell? ⟨w0.heap.size, 0, none⟩ = some (.int .i64 3) ∧ V.cell? ⟨w0.heap.size, 1, none⟩ = some (.string x.f1.f0) ∧ V.cell? ⟨w0.heap.size, 2, none⟩ = some (.slice A2 x.f1.f1.length c2) ∧ V.cell? ⟨w0.heap.size, 3, none⟩ = some (.int .i64 x.f2) ∧ V.cell? ⟨w0.heap.size, 4, none⟩ = some (.int .i64 x.f3) ∧ Go.RowKit.Below w0.heap.size w0 V) ⟨by simp, by simp, by simp, by first | (simp; done) | simp [ha], by first | (simp; done) | simp [hb], (Go.RowKit.Below.refl _ w0).alloc (Nat.le_refl _) _⟩ ?_
 clear y0 y1 y2 y3 y4
 generalize hg1 : w0.heap.size = g1
 rintro w2 ⟨z0, z1, z2, z3, z4, hb2⟩
 rw [← hg1] at hb2
 have HB2 := Aside0.mk hb2
 clear hb2 hg1
 rw [ha] at z3
 rw [hb] at z4
 clear ha HA hb HB
 obtain ⟨vA, hvA⟩ : ∃ v, fA p = v := ⟨_, rfl⟩
 have C1 := Aside0.mk (H1.out p hp)
 rw [hvA] at C1
 have HVA := Aside0.mk hvA
 clear H1 hvA
 cases vA
 all_goals (
  go_wp2_with (first
   | (go_at_call 25; with_reducible refine (C1.out _ HB2.out).mono ?_; rintro e w3 ⟨rfl, hb⟩; replace HB2 := Aside0.mk (HB2.out.trans (hb.mono HB2.out.size)); replace z0 := mvc hb z0; replace z3 := mvc hb z3; replace z4 := mvc hb z4; clear hb)
   | (go_at_call 25; with_reducible refine (H2.out _ hp _ HB2.out).mono ?_; rintro e w3 ⟨rfl, hb⟩; replace HB2 := Aside0.mk (HB2.out.trans (hb.mono HB2.out.size)); replace z0 := mvc hb z0; replace z3 := mvc hb z3; replace z4 := mvc hb z4; clear hb)
   | fail)
  go_ret
  exact ⟨by simp [HVA.out], HB2.out⟩)
set_option maxHeartbeats 8000000 in
set_option maxRecDepth 1000000 in
theorem sat_or (htn : tn ≤ 1000000) (hl : NRow w A n c l) {q a b : Nat} (hq : q < n) {x : S62} (hx : rd_T62 l (q : Int) = x) (hk : x.f0 = 4) (ha : x.f2 = (a : Int)) {fA : Nat → Bool} (HA : Rs w A T B n c tn tc bn bc a fA) (hb : x.f3 = (b : Int)) {fB : Nat → Bool} (HB : Rs w A T B n c tn tc bn bc b fB) : Rs w A T B n c tn tc bn bc q (fun p => fA p || fB p) := by
 intro p hp w0 hw0
 have hu := Tryz.underlying62
 have hcap := hl.cap
 have hq1 : (0 : Int) ≤ (q : Int) := by omega
 have hq2 : (q : Int) < (n : Int) := by omega
 have H1 := Aside0.mk (HA.up hw0)
 have H2 := Aside0.mk (HB.up hw0)
 obtain ⟨ad, A2, c2, eA, y0, y1, y2, y3, y4, y5, y6⟩ := at_T62 (hl.below hw0).C (q : Int) (by omega) (by omega)
 subst eA
 rw [hx] at y0 y1 y2 y3 y4 y5 y6
 rw [hk] at y0
 rw [show ((q : Int)).toNat * 5 = q * 5 by omega] at y0 y1 y2 y3 y4
 go_enter Tryz.func25, Tryz.ntmps25
 go_upto_region 2 with fail
 refine wp_world (fun V => V.cell? ⟨w0.heap.size, 0, none⟩ = some (.int .i64 4) ∧ V.cell? ⟨w0.heap.size, 1, none⟩ = some (.string x.f1.f0) ∧ V.cell? ⟨w0.heap.size, 2, none⟩ = some (.slice A2 x.f1.f1.length c2) ∧ V.cell? ⟨w0.heap.size, 3, none⟩ = some (.int .i64 x.f2) ∧ V.cell? ⟨w0.heap.size, 4, none⟩ = some (.int .i64 x.f3) ∧ Go.RowKit.Below w0.heap.size w0 V) ⟨by simp, by simp, by simp, by first | (simp; done) | simp [ha], by first | (simp; done) | simp [hb], (Go.RowKit.Below.refl _ w0).alloc (Nat.le_refl _) _⟩ ?_
 clear y0 y1 y2 y3 y4
 generalize hg1 : w0.heap.size = g1
 rintro w2 ⟨z0, z1, z2, z3, z4, hb2⟩
 rw [← hg1] at hb2
 have HB2 := Aside0.mk hb2
 clear hb2 hg1
 rw [ha] at z3
 rw [hb] at z4
 clear ha HA hb HB
 obtain ⟨vA, hvA⟩ : ∃ v, fA p = v := ⟨_, rfl⟩
 have C1 := Aside0.mk (H1.out p hp)
 rw [hvA] at C1
 have HVA := Aside0.mk hvA
 clear H1 hvA
 cases vA
 all_goals (
  go_wp2_with (first
   | (go_at_call 25; with_reducible refine (C1.out _ HB2.out).mono ?_; rintro e w3 ⟨rfl, hb⟩; replace HB2 := Aside0.mk (HB2.out.trans (hb.mono HB2.out.size)); replace z0 := mvc hb z0; replace z3 := mvc hb z3; replace z4 := mvc hb z4; clear hb)
   | (go_at_call 25; with_reducible refine (H2.out _ hp _ HB2.out).mono ?_; rintro e w3 ⟨rfl, hb⟩; replace HB2 := Aside0.mk (HB2.out.trans (hb.mono HB2.out.size)); replace z0 := mvc hb z0; replace z3 := mvc hb z3; replace z4 := mvc hb z4; clear hb)
   | fail)
  go_ret
  exact ⟨by simp [HVA.out], HB2.out⟩)
set_option maxHeartbeats 8000000 in
set_option maxRecDepth 1000000 in
theorem sat_before (htn : tn ≤ 1000000) (hl : NRow w A n c l) {q a b : Nat} (hq : q < n) {x : S62} (hx : rd_T62 l (q : Int) = x) (hk : x.f0 = 5) (ha : x.f2 = (a : Int)) {fA : Nat → Bool} (HA : Rs w A T B n c tn tc bn bc a fA) : Rs w A T B n c tn tc bn bc q (beforeR fA) := by
 intro p hp w0 hw0
 have hu := Tryz.underlying62
 have hcap := hl.cap
 have hq1 : (0 : Int) ≤ (q : Int) := by omega
 have hq2 : (q : Int) < (n : Int) := by omega
 have H1 := Aside0.mk (HA.up hw0)
 obtain ⟨ad, A2, c2, eA, y0, y1, y2, y3, y4, y5, y6⟩ := at_T62 (hl.below hw0).C (q : Int) (by omega) (by omega)
 subst eA
 rw [hx] at y0 y1 y2 y3 y4 y5 y6
 rw [hk] at y0
 rw [show ((q : Int)).toNat * 5 = q * 5 by omega] at y0 y1 y2 y3 y4
 go_enter Tryz.func25, Tryz.ntmps25
 go_upto_region 2 with fail
 refine wp_world (fun V => V.cell? ⟨w0.heap.size, 0, none⟩ = some (.int .i64 5) ∧ V.cell? ⟨w0.heap.size, 1, none⟩ = some (.string x.f1.f0) ∧ V.cell? ⟨w0.heap.size, 2, none⟩ = some (.slice A2 x.f1.f1.length c2) ∧ V.cell? ⟨w0.heap.size, 3, none⟩ = some (.int .i64 x.f2) ∧ V.cell? ⟨w0.heap.size, 4, none⟩ = some (.int .i64 x.f3) ∧ Go.RowKit.Below w0.heap.size w0 V) ⟨by simp, by simp, by simp, by first | (simp; done) | simp [ha], by simp, (Go.RowKit.Below.refl _ w0).alloc (Nat.le_refl _) _⟩ ?_
 clear y0 y1 y2 y3 y4
 generalize hg1 : w0.heap.size = g1
 rintro w2 ⟨z0, z1, z2, z3, z4, hb2⟩
 rw [← hg1] at hb2
 have HB2 := Aside0.mk hb2
 clear hb2 hg1
 rw [ha] at z3
 clear ha HA
 cases p with
 | zero =>
  have d : decide ((0 : Int) < ((0 : Nat) : Int)) = false := by decide
  go_wp2
  go_ret
  exact ⟨rfl, HB2.out⟩
 | succ p =>
  have d : decide ((0 : Int) < ((p + 1 : Nat) : Int)) = true := decide_eq_true (by omega)
  have d2 : (0 : Int) < ((p + 1 : Nat) : Int) := by omega
  have kw : IntKind.i64.wrap (((p + 1 : Nat) : Int) - 1) = (p : Int) := by rw [show ((p + 1 : Nat) : Int) - 1 = (p : Int) by omega]; exact kwrap (by omega) (by omega)
  obtain ⟨p1, hp1⟩ : ∃ p1, p1 = p + 1 := ⟨_, rfl⟩
  rw [← hp1] at d d2 kw hp ⊢
  have HP := Aside0.mk (show p < tn by omega)
  clear hp1 hp
  go_wp2_with (first
   | (go_at_call 25; with_reducible refine (H1.out _ HP.out _ HB2.out).mono ?_; rintro e w3 ⟨rfl, hb⟩; replace HB2 := Aside0.mk (HB2.out.trans (hb.mono HB2.out.size)); replace z0 := mvc hb z0; replace z3 := mvc hb z3; replace z4 := mvc hb z4; clear hb)
   | fail)
  go_ret
  exact ⟨rfl, HB2.out⟩
set_option maxHeartbeats 8000000 in
set_option maxRecDepth 1000000 in
theorem sat_once (htn : tn ≤ 1000000) (hl : NRow w A n c l) {q a b : Nat} (hq : q < n) {x : S62} (hx : rd_T62 l (q : Int) = x) (hk : x.f0 = 6) (ha : x.f2 = (a : Int)) {fA : Nat → Bool} (HA : Rs w A T B n c tn tc bn bc a fA) : Rs w A T B n c tn tc bn bc q (onceR fA) := by
 intro p hp w0 hw0
 have hu := Tryz.underlying62
 have hcap := hl.cap
 have hq1 : (0 : Int) ≤ (q : Int) := by omega
 have hq2 : (q : Int) < (n : Int) := by omega
 have H1 := Aside0.mk (HA.up hw0)
 obtain ⟨ad, A2, c2, eA, y0, y1, y2, y3, y4, y5, y6⟩ := at_T62 (hl.below hw0).C (q : Int) (by omega) (by omega)
 subst eA
 rw [hx] at y0 y1 y2 y3 y4 y5 y6
 rw [hk] at y0
 rw [show ((q : Int)).toNat * 5 = q * 5 by omega] at y0 y1 y2 y3 y4
 go_enter Tryz.func25, Tryz.ntmps25
 go_upto_region 2 with fail
 refine wp_world (fun V => V.cell? ⟨w0.heap.size, 0, none⟩ = some (.int .i64 6) ∧ V.cell? ⟨w0.heap.size, 1, none⟩ = some (.string x.f1.f0) ∧ V.cell? ⟨w0.heap.size, 2, none⟩ = some (.slice A2 x.f1.f1.length c2) ∧ V.cell? ⟨w0.heap.size, 3, none⟩ = some (.int .i64 x.f2) ∧ V.cell? ⟨w0.heap.size, 4, none⟩ = some (.int .i64 x.f3) ∧ Go.RowKit.Below w0.heap.size w0 V) ⟨by simp, by simp, by simp, by first | (simp; done) | simp [ha], by simp, (Go.RowKit.Below.refl _ w0).alloc (Nat.le_refl _) _⟩ ?_
 clear y0 y1 y2 y3 y4
 generalize hg1 : w0.heap.size = g1
 rintro w2 ⟨z0, z1, z2, z3, z4, hb2⟩
 rw [← hg1] at hb2
 have HB2 := Aside0.mk hb2
 clear hb2 hg1
 rw [ha] at z3
 clear ha HA
 go_wp2
 go_loopg [14] (p + 1) (fun gg s14 wr => ∃ j : Nat, s14 = .int .i64 j ∧ j ≤ p + 1 ∧ p + 1 - j ≤ gg ∧ wr.cell? ⟨g1, 0, none⟩ = some (.int .i64 6) ∧ wr.cell? ⟨g1, 3, none⟩ = some (.int .i64 (a : Int)) ∧ Aside0 (Go.RowKit.Below w0.heap.size w0 wr ∧ ∀ q, q < j → fA q = false))
 case atStart => exact ⟨0, rfl, Nat.zero_le _, Nat.le_refl _, z0, z3, ⟨HB2.out, fun q h => absurd h (Nat.not_lt_zero _)⟩⟩
 case round =>
  clear z0 z1 z2 z3 z4
  obtain ⟨j, rfl, hj, hg, z0, z3, HI⟩ := hrel
  by_cases hlt : j ≤ p
  ·have d : decide ((j : Int) ≤ (p : Int)) = true := decide_eq_true (by omega)
   have d2 : (j : Int) ≤ (p : Int) := by omega
   obtain ⟨v, hv⟩ : ∃ v, fA j = v := ⟨_, rfl⟩
   have mixed : Tryz.prog.follows .mixedOrders = true := by kernel_rfl
   have r0 := cell_regrown z0
   have r3 := cell_regrown z3
   have c1 : ∀ d os, Calls Tryz.prog 25 #[.slice (some ad) n c, .int .i64 (a : Int), .slice T tn tc, .int .i64 (j : Int), .slice B bn bc] (grow (redrawn wr d) os) fun e w'' => e = .returned (.bool v) ∧ ∃ p : Regrown, w'' = grow (redrawn wr p.d) p.os := fun d os => Calls.regrown_of (by have := H1.out j (by omega) _ (HI.out.1.trans ((below_regrown wr d os).mono HI.out.1.size)); rwa [hv] at this)
   have HV := Aside0.mk hv
   clear hv
   have kw : IntKind.i64.wrap ((j : Int) + 1) = ((j + 1 : Nat) : Int) := by rw [show (j : Int) + 1 = ((j + 1 : Nat) : Int) by omega]; exact kwrap (by omega) (by omega)
   go_upto_region 19 with fail
   cases v
   all_goals (
    refine wp_region_quiet_below mixed (by kernel_rfl) ?_
    repeat (first | go_big_quiet_step (exact c1 _ _) | quiet_step (exact c1 _ _))
    refine wpQuiet_nil ?_
    intro _ hw'
    obtain ⟨⟨dq, osq⟩, hw''⟩ := hw'
    subst hw''
    have HBq := Aside0.mk (HI.out.1.trans ((below_regrown wr dq osq).mono HI.out.1.size))
    replace z0 := r0 dq osq
    replace z3 := r3 dq osq
    clear r0 r3 c1 mixed
    go_wp2)
   ·first
     | (go_ret; exact ⟨by rw [onceR_true HV.out p hlt]; first | rfl | decide, HBq.out⟩)
     | (go_roundg (p + 1 - (j + 1)); (case measure => omega); (case rel => exact ⟨j + 1, by go_num, by omega, by omega, z0, z3, ⟨HBq.out, fun q hq => by
       by_cases e : q = j
       ·rw [e]; exact HV.out
       ·exact HI.out.2 q (by omega)⟩⟩))
   ·first
     | (go_ret; exact ⟨by rw [onceR_true HV.out p hlt]; first | rfl | decide, HBq.out⟩)
     | (go_roundg (p + 1 - (j + 1)); (case measure => omega); (case rel => exact ⟨j + 1, by go_num, by omega, by omega, z0, z3, ⟨HBq.out, fun q hq => by
       by_cases e : q = j
       ·rw [e]; exact HV.out
       ·exact HI.out.2 q (by omega)⟩⟩))
  ·have d : decide ((j : Int) ≤ (p : Int)) = false := decide_eq_false (by omega)
   have d2 : ¬ (j : Int) ≤ (p : Int) := by omega
   go_wp2
   go_ret
   exact ⟨by rw [onceR_false p (fun q hq => HI.out.2 q (by omega))]; first | rfl | decide, HI.out.1⟩
set_option maxHeartbeats 8000000 in
set_option maxRecDepth 1000000 in
theorem sat_always (htn : tn ≤ 1000000) (hl : NRow w A n c l) {q a b : Nat} (hq : q < n) {x : S62} (hx : rd_T62 l (q : Int) = x) (hk : x.f0 = 7) (ha : x.f2 = (a : Int)) {fA : Nat → Bool} (HA : Rs w A T B n c tn tc bn bc a fA) : Rs w A T B n c tn tc bn bc q (alwaysR fA) := by
 intro p hp w0 hw0
 have hu := Tryz.underlying62
 have hcap := hl.cap
 have hq1 : (0 : Int) ≤ (q : Int) := by omega
 have hq2 : (q : Int) < (n : Int) := by omega
 have H1 := Aside0.mk (HA.up hw0)
 obtain ⟨ad, A2, c2, eA, y0, y1, y2, y3, y4, y5, y6⟩ := at_T62 (hl.below hw0).C (q : Int) (by omega) (by omega)
 subst eA
 rw [hx] at y0 y1 y2 y3 y4 y5 y6
 rw [hk] at y0
 rw [show ((q : Int)).toNat * 5 = q * 5 by omega] at y0 y1 y2 y3 y4
 go_enter Tryz.func25, Tryz.ntmps25
 go_upto_region 2 with fail
 refine wp_world (fun V => V.cell? ⟨w0.heap.size, 0, none⟩ = some (.int .i64 7) ∧ V.cell? ⟨w0.heap.size, 1, none⟩ = some (.string x.f1.f0) ∧ V.cell? ⟨w0.heap.size, 2, none⟩ = some (.slice A2 x.f1.f1.length c2) ∧ V.cell? ⟨w0.heap.size, 3, none⟩ = some (.int .i64 x.f2) ∧ V.cell? ⟨w0.heap.size, 4, none⟩ = some (.int .i64 x.f3) ∧ Go.RowKit.Below w0.heap.size w0 V) ⟨by simp, by simp, by simp, by first | (simp; done) | simp [ha], by simp, (Go.RowKit.Below.refl _ w0).alloc (Nat.le_refl _) _⟩ ?_
 clear y0 y1 y2 y3 y4
 generalize hg1 : w0.heap.size = g1
 rintro w2 ⟨z0, z1, z2, z3, z4, hb2⟩
 rw [← hg1] at hb2
 have HB2 := Aside0.mk hb2
 clear hb2 hg1
 rw [ha] at z3
 clear ha HA
 go_wp2
 go_loopg [14] (p + 1) (fun gg s14 wr => ∃ j : Nat, s14 = .int .i64 j ∧ j ≤ p + 1 ∧ p + 1 - j ≤ gg ∧ wr.cell? ⟨g1, 0, none⟩ = some (.int .i64 7) ∧ wr.cell? ⟨g1, 3, none⟩ = some (.int .i64 (a : Int)) ∧ Aside0 (Go.RowKit.Below w0.heap.size w0 wr ∧ ∀ q, q < j → fA q = true))
 case atStart => exact ⟨0, rfl, Nat.zero_le _, Nat.le_refl _, z0, z3, ⟨HB2.out, fun q h => absurd h (Nat.not_lt_zero _)⟩⟩
 case round =>
  clear z0 z1 z2 z3 z4
  obtain ⟨j, rfl, hj, hg, z0, z3, HI⟩ := hrel
  by_cases hlt : j ≤ p
  ·have d : decide ((j : Int) ≤ (p : Int)) = true := decide_eq_true (by omega)
   have d2 : (j : Int) ≤ (p : Int) := by omega
   obtain ⟨v, hv⟩ : ∃ v, fA j = v := ⟨_, rfl⟩
   have mixed : Tryz.prog.follows .mixedOrders = true := by kernel_rfl
   have r0 := cell_regrown z0
   have r3 := cell_regrown z3
   have c1 : ∀ d os, Calls Tryz.prog 25 #[.slice (some ad) n c, .int .i64 (a : Int), .slice T tn tc, .int .i64 (j : Int), .slice B bn bc] (grow (redrawn wr d) os) fun e w'' => e = .returned (.bool v) ∧ ∃ p : Regrown, w'' = grow (redrawn wr p.d) p.os := fun d os => Calls.regrown_of (by have := H1.out j (by omega) _ (HI.out.1.trans ((below_regrown wr d os).mono HI.out.1.size)); rwa [hv] at this)
   have HV := Aside0.mk hv
   clear hv
   have kw : IntKind.i64.wrap ((j : Int) + 1) = ((j + 1 : Nat) : Int) := by rw [show (j : Int) + 1 = ((j + 1 : Nat) : Int) by omega]; exact kwrap (by omega) (by omega)
   go_upto_region 19 with fail
   cases v
   all_goals (
    refine wp_region_quiet_below mixed (by kernel_rfl) ?_
    repeat (first | go_big_quiet_step (exact c1 _ _) | quiet_step (exact c1 _ _))
    refine wpQuiet_nil ?_
    intro _ hw'
    obtain ⟨⟨dq, osq⟩, hw''⟩ := hw'
    subst hw''
    have HBq := Aside0.mk (HI.out.1.trans ((below_regrown wr dq osq).mono HI.out.1.size))
    replace z0 := r0 dq osq
    replace z3 := r3 dq osq
    clear r0 r3 c1 mixed
    go_wp2)
   ·first
     | (go_ret; exact ⟨by rw [alwaysR_false HV.out p hlt]; first | rfl | decide, HBq.out⟩)
     | (go_roundg (p + 1 - (j + 1)); (case measure => omega); (case rel => exact ⟨j + 1, by go_num, by omega, by omega, z0, z3, ⟨HBq.out, fun q hq => by
       by_cases e : q = j
       ·rw [e]; exact HV.out
       ·exact HI.out.2 q (by omega)⟩⟩))
   ·first
     | (go_ret; exact ⟨by rw [alwaysR_false HV.out p hlt]; first | rfl | decide, HBq.out⟩)
     | (go_roundg (p + 1 - (j + 1)); (case measure => omega); (case rel => exact ⟨j + 1, by go_num, by omega, by omega, z0, z3, ⟨HBq.out, fun q hq => by
       by_cases e : q = j
       ·rw [e]; exact HV.out
       ·exact HI.out.2 q (by omega)⟩⟩))
  ·have d : decide ((j : Int) ≤ (p : Int)) = false := decide_eq_false (by omega)
   have d2 : ¬ (j : Int) ≤ (p : Int) := by omega
   go_wp2
   go_ret
   exact ⟨by rw [alwaysR_true p (fun q hq => HI.out.2 q (by omega))]; first | rfl | decide, HI.out.1⟩
set_option maxHeartbeats 8000000 in
set_option maxRecDepth 1000000 in
theorem sat_since (htn : tn ≤ 1000000) (hl : NRow w A n c l) {q a b : Nat} (hq : q < n) {x : S62} (hx : rd_T62 l (q : Int) = x) (hk : x.f0 = 8) (ha : x.f2 = (a : Int)) {fA : Nat → Bool} (HA : Rs w A T B n c tn tc bn bc a fA) (hb : x.f3 = (b : Int)) {fB : Nat → Bool} (HB : Rs w A T B n c tn tc bn bc b fB) : Rs w A T B n c tn tc bn bc q (sinceR fA fB) := by
 intro p hp w0 hw0
 have hu := Tryz.underlying62
 have hcap := hl.cap
 have hq1 : (0 : Int) ≤ (q : Int) := by omega
 have hq2 : (q : Int) < (n : Int) := by omega
 have H1 := Aside0.mk (HA.up hw0)
 have H2 := Aside0.mk (HB.up hw0)
 obtain ⟨ad, A2, c2, eA, y0, y1, y2, y3, y4, y5, y6⟩ := at_T62 (hl.below hw0).C (q : Int) (by omega) (by omega)
 subst eA
 rw [hx] at y0 y1 y2 y3 y4 y5 y6
 rw [hk] at y0
 rw [show ((q : Int)).toNat * 5 = q * 5 by omega] at y0 y1 y2 y3 y4
 go_enter Tryz.func25, Tryz.ntmps25
 go_upto_region 2 with fail
 refine wp_world (fun V => V.cell? ⟨w0.heap.size, 0, none⟩ = some (.int .i64 8) ∧ V.cell? ⟨w0.heap.size, 1, none⟩ = some (.string x.f1.f0) ∧ V.cell? ⟨w0.heap.size, 2, none⟩ = some (.slice A2 x.f1.f1.length c2) ∧ V.cell? ⟨w0.heap.size, 3, none⟩ = some (.int .i64 x.f2) ∧ V.cell? ⟨w0.heap.size, 4, none⟩ = some (.int .i64 x.f3) ∧ Go.RowKit.Below w0.heap.size w0 V) ⟨by simp, by simp, by simp, by first | (simp; done) | simp [ha], by first | (simp; done) | simp [hb], (Go.RowKit.Below.refl _ w0).alloc (Nat.le_refl _) _⟩ ?_
 clear y0 y1 y2 y3 y4
 generalize hg1 : w0.heap.size = g1
 rintro w2 ⟨z0, z1, z2, z3, z4, hb2⟩
 rw [← hg1] at hb2
 have HB2 := Aside0.mk hb2
 clear hb2 hg1
 rw [ha] at z3
 rw [hb] at z4
 clear ha HA hb HB
 go_wp2
 go_loopg [15] (p + 1) (fun gg s15 wr => ∃ m : Nat, s15 = .int .i64 ((m : Int) - 1) ∧ m ≤ p + 1 ∧ m ≤ gg ∧ wr.cell? ⟨g1, 3, none⟩ = some (.int .i64 (a : Int)) ∧ wr.cell? ⟨g1, 4, none⟩ = some (.int .i64 (b : Int)) ∧ Aside0 (Go.RowKit.Below w0.heap.size w0 wr ∧ sinceR fA fB p = (if m = 0 then false else sinceR fA fB (m - 1))))
 case atStart => exact ⟨p + 1, by go_num, Nat.le_refl _, Nat.le_refl _, z3, z4, ⟨HB2.out, by simp⟩⟩
 case round =>
  clear z0 z1 z2 z3 z4
  obtain ⟨m, rfl, hm, hg, z3, z4, HI⟩ := hrel
  have HB2 := Aside0.mk HI.out.1
  cases m with
  | zero =>
   have d : decide ((0 : Int) ≤ ((0 : Nat) : Int) - 1) = false := by decide
   go_wp2
   go_ret
   exact ⟨by rw [HI.out.2]; rfl, HI.out.1⟩
  | succ j =>
   have d : decide ((0 : Int) ≤ (j : Int)) = true := decide_eq_true (by omega)
   have d2 : (0 : Int) ≤ (j : Int) := by omega
   have kw : IntKind.i64.wrap ((j : Int) - 1) = (j : Int) - 1 := kwrap (by omega) (by omega)
   have e1 : ((j + 1 : Nat) : Int) - 1 = (j : Int) := by omega
   rw [e1]
   obtain ⟨vB, hvB⟩ : ∃ v, fB j = v := ⟨_, rfl⟩
   obtain ⟨vA, hvA⟩ : ∃ v, fA j = v := ⟨_, rfl⟩
   have HS : Aside0 (sinceR fA fB p = (vB || (vA && (if j = 0 then false else sinceR fA fB (j - 1))))) := ⟨by
    rw [HI.out.2, if_neg (by omega), Nat.add_sub_cancel]
    cases j with
    | zero => rw [sinceR, hvB]; simp
    | succ j => rw [sinceR, hvB, hvA, if_neg (by omega), Nat.add_sub_cancel, Bool.and_comm]⟩
   have C1 := Aside0.mk (H1.out j (by omega))
   have C2 := Aside0.mk (H2.out j (by omega))
   rw [hvA] at C1
   rw [hvB] at C2
   clear hvA hvB e1
   cases vB
   ·cases vA
    ·go_wp2_with (first
      | (go_at_call 25; with_reducible refine (C1.out _ HB2.out).mono ?_; rintro e w3 ⟨rfl, hb⟩; replace HB2 := Aside0.mk (HB2.out.trans (hb.mono HB2.out.size)); replace z3 := mvc hb z3; replace z4 := mvc hb z4; clear hb)
      | (go_at_call 25; with_reducible refine (C2.out _ HB2.out).mono ?_; rintro e w3 ⟨rfl, hb⟩; replace HB2 := Aside0.mk (HB2.out.trans (hb.mono HB2.out.size)); replace z3 := mvc hb z3; replace z4 := mvc hb z4; clear hb)
      | fail)
     go_ret
     exact ⟨by rw [HS.out]; rfl, HB2.out⟩
    ·go_wp2_with (first
      | (go_at_call 25; with_reducible refine (C1.out _ HB2.out).mono ?_; rintro e w3 ⟨rfl, hb⟩; replace HB2 := Aside0.mk (HB2.out.trans (hb.mono HB2.out.size)); replace z3 := mvc hb z3; replace z4 := mvc hb z4; clear hb)
      | (go_at_call 25; with_reducible refine (C2.out _ HB2.out).mono ?_; rintro e w3 ⟨rfl, hb⟩; replace HB2 := Aside0.mk (HB2.out.trans (hb.mono HB2.out.size)); replace z3 := mvc hb z3; replace z4 := mvc hb z4; clear hb)
      | fail)
     go_roundg j
     case measure => omega
     case rel => exact ⟨j, by go_num, by omega, by omega, z3, z4, ⟨HB2.out, by rw [HS.out]; rfl⟩⟩
   ·go_wp2_with (first
     | (go_at_call 25; with_reducible refine (C2.out _ HB2.out).mono ?_; rintro e w3 ⟨rfl, hb⟩; replace HB2 := Aside0.mk (HB2.out.trans (hb.mono HB2.out.size)); replace z3 := mvc hb z3; replace z4 := mvc hb z4; clear hb)
     | fail)
    go_ret
    exact ⟨by rw [HS.out]; rfl, HB2.out⟩
set_option maxHeartbeats 8000000 in
set_option maxRecDepth 1000000 in
theorem sat_is (hl : NRow w A n c l) {q : Nat} (hq : q < n) {x : S62} (hx : rd_T62 l (q : Int) = x) (hk : x.f0 = 1) (ht : TRow w T tn tc t) {gn : ByteArray} {gl : List S64} {ok : Bool} (HG : ∀ W A2 c2, Go.RowKit.Below w.heap.size w W → x.f1.f1.length ≤ c2 → Kd.C k92 W A2 x.f1.f1.length x.f1.f1 → Calls Tryz.prog 56 #[.agg #[.string x.f1.f0, .slice A2 x.f1.f1.length c2], .slice B bn bc] W fun e w' => ∃ A' c', e = .returned (.tuple #[.agg #[.string gn, .slice A' gl.length c'], .bool ok]) ∧ (gl.length ≤ c' ∧ Kd.C k64 w' A' gl.length gl) ∧ Go.RowKit.Below W.heap.size W w')
  (HK : ∀ (y : S58) W A' c' A1 c1, gl.length ≤ c' → Kd.C k64 W A' gl.length gl → y.f1.length ≤ c1 → Kd.C k64 W A1 y.f1.length y.f1 → Calls Tryz.prog 39 #[.agg #[.string gn, .slice A' gl.length c'], .agg #[.string y.f0, .slice A1 y.f1.length c1]] W fun e w' => e = .returned (.bool (decide (gn = y.f0 ∧ gl = y.f1))) ∧ Go.RowKit.Below W.heap.size W w') : Rs w A T B n c tn tc bn bc q (fun p => decide (gn = (rd_T58 t (p : Int)).f0 ∧ gl = (rd_T58 t (p : Int)).f1)) := by
 intro p hp w0 hw0
 have hu := Tryz.underlying62
 have hcap := hl.cap
 have hq1 : (0 : Int) ≤ (q : Int) := by omega
 have hq2 : (q : Int) < (n : Int) := by omega
 have hu58 := Tryz.underlying58
 have hu25 := Tryz.underlying25
 obtain ⟨ad, A2, c2, eA, y0, y1, y2, y3, y4, y5, y6⟩ := at_T62 (hl.below hw0).C (q : Int) (by omega) (by omega)
 subst eA
 rw [hx] at y0 y1 y2 y3 y4 y5 y6
 have HC2 := Aside0.mk (And.intro y5 y6)
 clear y5 y6
 rw [hk] at y0
 rw [show ((q : Int)).toNat * 5 = q * 5 by omega] at y0 y1 y2 y3 y4
 go_enter Tryz.func25, Tryz.ntmps25
 go_upto_region 2 with fail
 refine wp_world (fun V => V.cell? ⟨w0.heap.size, 0, none⟩ = some (.int .i64 1) ∧ V.cell? ⟨w0.heap.size, 1, none⟩ = some (.string x.f1.f0) ∧ V.cell? ⟨w0.heap.size, 2, none⟩ = some (.slice A2 x.f1.f1.length c2) ∧ V.cell? ⟨w0.heap.size, 3, none⟩ = some (.int .i64 x.f2) ∧ V.cell? ⟨w0.heap.size, 4, none⟩ = some (.int .i64 x.f3) ∧ Go.RowKit.Below w0.heap.size w0 V) ⟨by simp, by simp, by simp, by simp, by simp, (Go.RowKit.Below.refl _ w0).alloc (Nat.le_refl _) _⟩ ?_
 clear y0 y1 y2 y3 y4
 generalize hg1 : w0.heap.size = g1
 rintro w2 ⟨z0, z1, z2, z3, z4, hb2⟩
 rw [← hg1] at hb2
 have HB2 := Aside0.mk hb2
 have HG1 := Aside0.mk (show ∀ W, Go.RowKit.Below w2.heap.size w2 W → Calls Tryz.prog 56 #[.agg #[.string x.f1.f0, .slice A2 x.f1.f1.length c2], .slice B bn bc] W fun e w' => ∃ A' c', e = .returned (.tuple #[.agg #[.string gn, .slice A' gl.length c'], .bool ok]) ∧ (gl.length ≤ c' ∧ Kd.C k64 w' A' gl.length gl) ∧ Go.RowKit.Below W.heap.size W w' from fun W hW => HG W A2 c2 (hw0.trans ((hb2.trans (hW.mono hb2.size)).mono hw0.size)) HC2.out.1 (Kd.C_below HC2.out.2 (hb2.trans (hW.mono hb2.size))))
 clear hb2 hg1
 obtain ⟨at1, A1, c1, eT, y0, y1, y2, y3⟩ := at_T58 (ht.below (hw0.trans (HB2.out.mono hw0.size))).C (p : Int) (by omega) (by omega)
 have htc := ht.cap
 have hp1 : (0 : Int) ≤ (p : Int) := by omega
 have hp2 : (p : Int) < (tn : Int) := by omega
 rw [show ((p : Int)).toNat * 2 = p * 2 by omega] at y0 y1
 obtain ⟨y, hyy⟩ : ∃ y, rd_T58 t (p : Int) = y := ⟨_, rfl⟩
 rw [hyy] at y0 y1 y2 y3
 have HYY := Aside0.mk hyy
 clear hyy
 subst eT
 have HY := Aside0.mk (And.intro y2 y3)
 have HKY := Aside0.mk (HK y)
 clear y2 y3 HG HK hl ht hx hk
 go_upto_region 5 with (first
  | (go_at_call 56; with_reducible refine (HG1.out _ (Go.RowKit.Below.refl _ w2)).mono ?_; rintro e w3 ⟨A', c', rfl, hV, hb⟩; have HV := Aside0.mk hV; have HBv := Aside0.mk hb; replace y0 := mvc hb y0; replace y1 := mvc hb y1; clear hb hV)
  | fail)
 have hW3 : Go.RowKit.Below w3.heap.size w3 (w3.alloc (.cells #[.string gn, .slice A' gl.length c'] 58)) := (Go.RowKit.Below.refl _ w3).alloc (Nat.le_refl _) _
 refine wp_world (fun V => V.cell? ⟨w3.heap.size, 0, none⟩ = some (.string gn) ∧ V.cell? ⟨w3.heap.size, 1, none⟩ = some (.slice A' gl.length c') ∧ V.cell? (at1.add (p * 2)) = some (.string y.f0) ∧ V.cell? ⟨(at1.add (p * 2)).block, (at1.add (p * 2)).off + 1, none⟩ = some (.slice A1 y.f1.length c1) ∧ Go.RowKit.Below w3.heap.size w3 V) ⟨by simp, by simp, mvc hW3 y0, mvc hW3 y1, hW3⟩ ?_
 clear hW3 y0 y1 z0 z1 z2 z3 z4
 generalize hg3 : w3.heap.size = g3
 rintro w4 ⟨u0, u1, y0, y1, hb4⟩
 rw [← hg3] at hb4
 have HB4 := Aside0.mk hb4
 clear hb4 hg3
 have mixed : Tryz.prog.follows .mixedOrders = true := by kernel_rfl
 have r0 := cell_regrown u0
 have r1 := cell_regrown u1
 have r2 := cell_regrown y0
 have r3 := cell_regrown y1
 have c1' : ∀ d os, Calls Tryz.prog 39 #[.agg #[.string gn, .slice A' gl.length c'], .agg #[.string y.f0, .slice A1 y.f1.length c1]] (grow (redrawn w4 d) os) fun e w'' => e = .returned (.bool (decide (gn = y.f0 ∧ gl = y.f1))) ∧ ∃ p : Regrown, w'' = grow (redrawn w4 p.d) p.os := fun d os => Calls.regrown_of (HKY.out _ _ _ _ _ HV.out.1 (Kd.C_below (Kd.C_below HV.out.2 HB4.out) (below_regrown w4 d os)) HY.out.1 (Kd.C_below (Kd.C_below (Kd.C_below HY.out.2 HBv.out) HB4.out) (below_regrown w4 d os)))
 obtain ⟨v, hv⟩ : ∃ v, decide (gn = y.f0 ∧ gl = y.f1) = v := ⟨_, rfl⟩
 rw [hv] at c1'
 have HVv := Aside0.mk hv
 clear hv
 refine wp_region_quiet_below mixed (by kernel_rfl) ?_
 repeat (first | go_big_quiet_step (exact c1' _ _) | quiet_step (exact c1' _ _))
 refine wpQuiet_nil ?_
 intro _ hw'
 obtain ⟨⟨dq, osq⟩, hw''⟩ := hw'
 subst hw''
 go_wp2
 go_ret
 have hbb := HBv.out.trans (HB4.out.mono HBv.out.size)
 exact ⟨by show Ending.returned (.bool v) = Ending.returned (.bool (decide (gn = (rd_T58 t (p : Int)).f0 ∧ gl = (rd_T58 t (p : Int)).f1))); rw [HYY.out, HVv.out], HB2.out.trans ((hbb.trans ((below_regrown w4 dq osq).mono hbb.size)).mono HB2.out.size)⟩
end
end Go.Proofs.YtghommaokdhjmaaGreat.Sat
namespace Go.Proofs.YtghommaokdhjmaaGreat.P
open Go.RowKit Go.Proofs.YtghommaokdhjmaaGreatW.PrintWords Go.Proofs.YtghommaokdhjmaaGreatW.PrintLast Gate
def qf84.f (a0 : Int) (a1 : Int) : Option (Int) := if a0 < a1 then (some (-1)) else (if a0 > a1 then (some 1) else (some 0))
set_option maxHeartbeats 8000000 in
set_option maxRecDepth 100000 in
theorem qf84.calls (a0 : Int) (a1 : Int) (r : Int) (w : World) (h : qf84.f a0 a1 = some r) :
  Calls Tryz.prog 84 #[.int .i64 a0, .int .i64 a1] w fun e w' => e = .returned (.int .i64 r) ∧ Drawn0 w w' := by
 have H : (if a0 < a1 then (some (-1)) else (if a0 > a1 then (some 1) else (some 0))) = some r := h
 clear h
 by_cases c3 : a0 < a1
 ·rw [if_pos c3] at H
  have c3b0 : decide (a0 < a1) = true := decide_eq_true c3
  clear c3
  obtain rfl := Option.some.inj H
  go_enter Tryz.func84, Tryz.ntmps84
  go_wp2
  go_ret
  exact drz
 ·rw [if_neg c3] at H
  have c3b0 : decide (a0 < a1) = false := decide_eq_false c3
  clear c3
  by_cases c4 : a0 > a1
  ·rw [if_pos c4] at H
   have c4b0 : decide (a1 < a0) = true := decide_eq_true c4
   clear c4
   obtain rfl := Option.some.inj H
   go_enter Tryz.func84, Tryz.ntmps84
   go_wp2
   go_ret
   exact drz
  ·rw [if_neg c4] at H
   have c4b0 : decide (a1 < a0) = false := decide_eq_false c4
   clear c4
   obtain rfl := Option.some.inj H
   go_enter Tryz.func84, Tryz.ntmps84
   go_wp2
   go_ret
   exact drz
mutual
def qf53.l0 : Nat → ByteArray → ByteArray → Int → Option (Int)
 | 0, _, _, _ => none
 | k + 1, x0, x1, x5 => if x5 < (x0.size : Int) then (qf53.j1 k x0 x1 x5 (decide (x5 < (x1.size : Int)))) else (qf53.j1 k x0 x1 x5 false)
def qf53.j1 : Nat → ByteArray → ByteArray → Int → Bool → Option (Int)
 | 0, _, _, _, _ => none
 | k + 1, x0, x1, x5, x15 => if x15 = true then (if 0 ≤ x5 then (if x5 < (x0.size : Int) then (if x5 < (x1.size : Int) then (if (bt x0 x5) = (bt x1 x5) then (qf53.l0 k x0 x1 (wrap64 (x5 + 1))) else ((qf84.f (wrap64 (bt x0 x5)) (wrap64 (bt x1 x5))).bind fun t832 => (some t832))) else (none)) else (none)) else (none)) else ((qf84.f (x0.size : Int) (x1.size : Int)).bind fun t833 => (some t833))
end
def qf53.f (k : Nat) (a0 : ByteArray) (a1 : ByteArray) : Option (Int) := qf53.l0 k a0 a1 0
set_option maxHeartbeats 8000000 in
set_option maxRecDepth 100000 in
theorem qf53.calls (k : Nat) (a0 : ByteArray) (a1 : ByteArray) (r : Int) (w : World) (h : qf53.f k a0 a1 = some r) :
  Calls Tryz.prog 53 #[.string a0, .string a1] w fun e w' => e = .returned (.int .i64 r) ∧ Drawn0 w w' := by
 have H : (qf53.l0 k a0 a1 0) = some r := h
 clear h
 have H' := Aside0.mk H
 clear H
 go_enter Tryz.func53, Tryz.ntmps53
 go_wp2
 repeat (go_quiet (fail); try go_wp2)
 go_loopg [5] k (fun kq v5 w' => ∃ (x5_1 : Int), v5 = .int .i64 x5_1 ∧ Aside0 (qf53.l0 kq a0 a1 x5_1 = some r) ∧ Aside0 (kq ≤ k) ∧ Drawn0 w w')
 case atStart => exact ⟨(0), (by first | rfl | (simp; done) | (simp [*]; done)), H', ⟨Nat.le_refl _⟩, by repeat (first | exact Drawn0.refl _ | apply Drawn0.step)⟩
 case round =>
  clear H'
  (try clear p2)
  obtain ⟨x5_1, rfl, HA, HK1, ⟨m1, rfl⟩⟩ := hrel
  cases gk with
  | zero => exact absurd HA.out (by simp [qf53.l0])
  | succ k1 =>
   have H := HA.out
   clear HA
   simp only [qf53.l0] at H
   have HC3 := Aside0.mk H
   clear H
   go_upto_region 2 with (fail)
   repeat (go_quiet (fail); go_upto_region 2 with (fail))
   go_cut [15] (fun v15 wc => ∃ (kq : Nat) (x15_2 : Bool), v15 = .bool x15_2 ∧ Aside0 (qf53.j1 kq a0 a1 x5_1 x15_2 = some r) ∧ Aside0 (kq ≤ k1) ∧ Drawn0 w wc)
   case first =>
    have H := HC3.out
    clear HC3
    by_cases c4 : x5_1 < (a0.size : Int)
    ·rw [if_pos c4] at H
     have c4b0 : decide (x5_1 < (a0.size : Int)) = true := decide_eq_true c4
     clear c4
     (first | rw [c4b0] | (simp only [i64_w, i32_w]; rw [c4b0]) | skip)
     have H' := Aside0.mk H
     clear H
     go_wp2
     repeat (go_quiet (fail); try go_wp2)
     go_meet
     case rel => exact ⟨_, (decide (x5_1 < (a1.size : Int))), (by first | rfl | (simp; done) | (simp [*]; done)), H', ⟨by have := HK1.out; first | omega | exact Nat.le_refl _⟩, by repeat (first | exact Drawn0.refl _ | apply Drawn0.step)⟩
    ·rw [if_neg c4] at H
     have c4b0 : decide (x5_1 < (a0.size : Int)) = false := decide_eq_false c4
     clear c4
     (first | rw [c4b0] | (simp only [i64_w, i32_w]; rw [c4b0]) | skip)
     have H' := Aside0.mk H
     clear H
     go_wp2
     repeat (go_quiet (fail); try go_wp2)
     go_meet
     case rel => exact ⟨_, (false), (by first | rfl | (simp; done) | (simp [*]; done)), H', ⟨by have := HK1.out; first | omega | exact Nat.le_refl _⟩, by repeat (first | exact Drawn0.refl _ | apply Drawn0.step)⟩
   case rest =>
    clear HC3
    (try clear p2); (try clear c4); (try clear c4b0); (try clear p2)
    obtain ⟨kq, x15_2, rfl, HA, HJ2, ⟨mc2, rfl⟩⟩ := hcut
    cases kq with
    | zero => exact absurd HA.out (by simp [qf53.j1])
    | succ kj2 =>
     have H := HA.out
     clear HA
     simp only [qf53.j1] at H
     by_cases c5 : x15_2 = true
     ·subst c5
      have H1 : (if 0 ≤ x5_1 then (if x5_1 < (a0.size : Int) then (if x5_1 < (a1.size : Int) then (if (bt a0 x5_1) = (bt a1 x5_1) then (qf53.l0 kj2 a0 a1 (wrap64 (x5_1 + 1))) else ((qf84.f (wrap64 (bt a0 x5_1)) (wrap64 (bt a1 x5_1))).bind fun t832 => (some t832))) else (none)) else (none)) else (none)) = some r := by rw [if_pos rfl] at H; exact H
      clear H
      have H := H1
      clear H1
      by_cases c6 : 0 ≤ x5_1
      ·rw [if_pos c6] at H
       have c6b0 : decide (0 ≤ x5_1) = true := decide_eq_true c6
       clear c6
       by_cases c7 : x5_1 < (a0.size : Int)
       ·rw [if_pos c7] at H
        have c7b0 : decide (x5_1 < (a0.size : Int)) = true := decide_eq_true c7
        clear c7
        by_cases c9 : x5_1 < (a1.size : Int)
        ·rw [if_pos c9] at H
         have c9b0 : decide (x5_1 < (a1.size : Int)) = true := decide_eq_true c9
         clear c9
         by_cases c11 : (bt a0 x5_1) = (bt a1 x5_1)
         ·rw [if_pos c11] at H
          have c11b0 : ((bt a0 x5_1) == (bt a1 x5_1)) = true := beq_iff_eq.mpr c11
          have c11b1 : ((bt a0 x5_1) != (bt a1 x5_1)) = false := bne_eq_false_iff_eq.mpr c11
          clear c11
          have H' := Aside0.mk H
          clear H
          have p8 : 0 ≤ (x5_1 : Int) := of_decide_eq_true (by first | (with_reducible assumption) | assumption)
          have q8 : x5_1 < (a0.size : Int) := of_decide_eq_true (by first | (with_reducible assumption) | assumption)
          have hx8 := bt_at a0 x5_1
          replace p8 := eq_true p8
          replace q8 := eq_true q8
          have p10 : 0 ≤ (x5_1 : Int) := of_decide_eq_true (by first | (with_reducible assumption) | assumption)
          have q10 : x5_1 < (a1.size : Int) := of_decide_eq_true (by first | (with_reducible assumption) | assumption)
          have hx10 := bt_at a1 x5_1
          replace p10 := eq_true p10
          replace q10 := eq_true q10
          go_wp2
          repeat (go_quiet (fail); try go_wp2)
          go_roundg kj2
          case measure => have := HK1.out; have := HJ2.out; omega
          case rel => exact ⟨(wrap64 (x5_1 + 1)), (by first | rfl | (simp; done) | (simp [*]; done)), H', ⟨by have := HK1.out; have := HJ2.out; omega⟩, by repeat (first | exact Drawn0.refl _ | apply Drawn0.step)⟩
         ·rw [if_neg c11] at H
          have c11b0 : ((bt a0 x5_1) == (bt a1 x5_1)) = false := beq_eq_false_iff_ne.mpr c11
          have c11b1 : ((bt a0 x5_1) != (bt a1 x5_1)) = true := bne_iff_ne.mpr c11
          replace H := Option.bind_eq_some_iff.mp H
          obtain ⟨t832, A140, H⟩ := H
          replace H : (some t832) = some r := H
          have A14 := Aside0.mk A140
          clear A140
          obtain rfl := Option.some.inj H
          have p8 : 0 ≤ (x5_1 : Int) := of_decide_eq_true (by first | (with_reducible assumption) | assumption)
          have q8 : x5_1 < (a0.size : Int) := of_decide_eq_true (by first | (with_reducible assumption) | assumption)
          have hx8 := bt_at a0 x5_1
          replace p8 := eq_true p8
          replace q8 := eq_true q8
          have p10 : 0 ≤ (x5_1 : Int) := of_decide_eq_true (by first | (with_reducible assumption) | assumption)
          have q10 : x5_1 < (a1.size : Int) := of_decide_eq_true (by first | (with_reducible assumption) | assumption)
          have hx10 := bt_at a1 x5_1
          replace p10 := eq_true p10
          replace q10 := eq_true q10
          have p12 : 0 ≤ (x5_1 : Int) := of_decide_eq_true (by first | (with_reducible assumption) | assumption)
          have q12 : x5_1 < (a0.size : Int) := of_decide_eq_true (by first | (with_reducible assumption) | assumption)
          have hx12 := bt_at a0 x5_1
          replace p12 := eq_true p12
          replace q12 := eq_true q12
          have p13 : 0 ≤ (x5_1 : Int) := of_decide_eq_true (by first | (with_reducible assumption) | assumption)
          have q13 : x5_1 < (a1.size : Int) := of_decide_eq_true (by first | (with_reducible assumption) | assumption)
          have hx13 := bt_at a1 x5_1
          replace p13 := eq_true p13
          replace q13 := eq_true q13
          go_wp2_with (first | (go_at_call 84; (with_reducible refine (qf84.calls (wrap64 (bt a0 x5_1)) (wrap64 (bt a1 x5_1)) t832 _ A14.out).mono ?_); rintro e w' ⟨rfl, ⟨nd, rfl⟩⟩; (try first | exact ⟨rfl, _, World.drewN_drewN _ _ _⟩ | exact ⟨rfl, _, Eq.trans (World.drewN_drewN _ _ _) (congrArg (World.drewN _) (Nat.add_assoc _ _ _))⟩)))
          repeat (go_quiet (first | (go_at_call 84; (with_reducible refine (qf84.calls (wrap64 (bt a0 x5_1)) (wrap64 (bt a1 x5_1)) t832 _ A14.out).mono ?_); rintro e w' ⟨rfl, ⟨nd, rfl⟩⟩; (try first | exact ⟨rfl, _, World.drewN_drewN _ _ _⟩ | exact ⟨rfl, _, Eq.trans (World.drewN_drewN _ _ _) (congrArg (World.drewN _) (Nat.add_assoc _ _ _))⟩))); try go_wp2_with (first | (go_at_call 84; (with_reducible refine (qf84.calls (wrap64 (bt a0 x5_1)) (wrap64 (bt a1 x5_1)) t832 _ A14.out).mono ?_); rintro e w' ⟨rfl, ⟨nd, rfl⟩⟩; (try first | exact ⟨rfl, _, World.drewN_drewN _ _ _⟩ | exact ⟨rfl, _, Eq.trans (World.drewN_drewN _ _ _) (congrArg (World.drewN _) (Nat.add_assoc _ _ _))⟩))))
          go_ret
          exact drz
        ·rw [if_neg c9] at H
         exact absurd H (by simp)
       ·rw [if_neg c7] at H
        exact absurd H (by simp)
      ·rw [if_neg c6] at H
       exact absurd H (by simp)
     ·replace c5 := Bool.eq_false_iff.mpr c5
      subst c5
      have H1 : ((qf84.f (a0.size : Int) (a1.size : Int)).bind fun t833 => (some t833)) = some r := by rw [if_neg (show ¬ (false = true) by decide)] at H; exact H
      clear H
      have H := H1
      clear H1
      replace H := Option.bind_eq_some_iff.mp H
      obtain ⟨t833, A150, H⟩ := H
      replace H : (some t833) = some r := H
      have A15 := Aside0.mk A150
      clear A150
      obtain rfl := Option.some.inj H
      go_wp2_with (first | (go_at_call 84; (with_reducible refine (qf84.calls (a0.size : Int) (a1.size : Int) t833 _ A15.out).mono ?_); rintro e w' ⟨rfl, ⟨nd, rfl⟩⟩; (try first | exact ⟨rfl, _, World.drewN_drewN _ _ _⟩ | exact ⟨rfl, _, Eq.trans (World.drewN_drewN _ _ _) (congrArg (World.drewN _) (Nat.add_assoc _ _ _))⟩)))
      repeat (go_quiet (first | (go_at_call 84; (with_reducible refine (qf84.calls (a0.size : Int) (a1.size : Int) t833 _ A15.out).mono ?_); rintro e w' ⟨rfl, ⟨nd, rfl⟩⟩; (try first | exact ⟨rfl, _, World.drewN_drewN _ _ _⟩ | exact ⟨rfl, _, Eq.trans (World.drewN_drewN _ _ _) (congrArg (World.drewN _) (Nat.add_assoc _ _ _))⟩))); try go_wp2_with (first | (go_at_call 84; (with_reducible refine (qf84.calls (a0.size : Int) (a1.size : Int) t833 _ A15.out).mono ?_); rintro e w' ⟨rfl, ⟨nd, rfl⟩⟩; (try first | exact ⟨rfl, _, World.drewN_drewN _ _ _⟩ | exact ⟨rfl, _, Eq.trans (World.drewN_drewN _ _ _) (congrArg (World.drewN _) (Nat.add_assoc _ _ _))⟩))))
      go_ret
      exact drz
end Go.Proofs.YtghommaokdhjmaaGreat.P
/- The references' Strings and Binds answer what the plain forms say; texts no longer than a million bytes. -/
namespace Go.Proofs.YtghommaokdhjmaaGreat.SpecB
open Go.RowKit Go.Lib Go.Proofs.YtghommaokdhjmaaGreatW.PrintWords Go.Proofs.YtghommaokdhjmaaGreatW.PrintLast Gate P Str PSpec CmpF
theorem data_get (s : ByteArray) (i : Nat) (h : i < s.size) : s.data.toList.drop i = s[i] :: s.data.toList.drop (i + 1) := by
 have h2 : i < s.data.toList.length := by simpa using h
 rw [List.drop_eq_getElem_cons h2]
 rfl
theorem bt_get (s : ByteArray) (i : Nat) (h : i < s.size) : bt s i = (s[i].toNat : Int) := by
 rw [← bt_at s i (by simpa using h)]; rfl
theorem order_eq (a b : Int) : qf84.f a b = some (if a < b then -1 else if b < a then 1 else 0) := by
 unfold qf84.f
 by_cases h : a < b
 ·rw [if_pos h, if_pos h]
 ·rw [if_neg h, if_neg h]
  by_cases h2 : a > b
  ·rw [if_pos h2, if_pos h2]
  ·rw [if_neg h2, if_neg h2]
theorem strings_end (s t : ByteArray) (i : Nat) (h1 : i ≤ s.size) (h2 : i ≤ t.size) (h : ¬ (i < s.size ∧ i < t.size)) : (if (s.size : Int) < t.size then (-1 : Int) else if (t.size : Int) < s.size then 1 else 0) = Lib.compareBytes (s.data.toList.drop i) (t.data.toList.drop i) := by
 by_cases h3 : i < s.size
 ·rw [data_get s i h3, show t.data.toList.drop i = [] from List.drop_eq_nil_of_le (by simp; omega), if_neg (by omega), if_pos (by omega)]; rfl
 ·rw [show s.data.toList.drop i = [] from List.drop_eq_nil_of_le (by simp; omega)]
  by_cases h4 : i < t.size
  ·rw [data_get t i h4, if_pos (by omega)]; rfl
  ·rw [show t.data.toList.drop i = [] from List.drop_eq_nil_of_le (by simp; omega), if_neg (by omega), if_neg (by omega)]; rfl
theorem strings_loop (s t : ByteArray) (hs : s.size ≤ 1000000) : ∀ (m i : Nat), i + m = s.size → i ≤ t.size → Ev (fun k => qf53.l0 k s t i) (Lib.compareBytes (s.data.toList.drop i) (t.data.toList.drop i)) := by
 intro m
 induction m with
 | zero =>
  intro i h ht
  refine Ev.step (fun k => by rw [qf53.l0, if_neg (by omega)]) ?_
  refine Ev.step (fun k => by rw [qf53.j1, if_neg (by decide), order_eq, Option.bind_some]) ?_
  rw [strings_end s t i (by omega) ht (by omega)]
  exact Ev.now _
 | succ m ih =>
  intro i h ht
  have hi : i < s.size := by omega
  by_cases hj : i < t.size
  ·have hr := bt_range s i
   have hr2 := bt_range t i
   refine Ev.step (fun k => by rw [qf53.l0, if_pos (by omega), decide_eq_true (by omega)]) ?_
   refine Ev.step (fun k => by rw [qf53.j1, if_pos rfl, if_pos (by omega), if_pos (by omega), if_pos (by omega), order_eq, w64 hs hi, show wrap64 (bt s i) = bt s i by unfold wrap64; omega, show wrap64 (bt t i) = bt t i by unfold wrap64; omega]) ?_
   rw [data_get s i hi, data_get t i hj, Lib.compareBytes]
   by_cases e : bt s i = bt t i
   ·simp only [if_pos e]
    have e2 : s[i] = t[i] := by
     rw [bt_get s i hi, bt_get t i hj] at e
     exact UInt8.toNat_inj.1 (by omega)
    rw [e2, if_neg (UInt8.lt_irrefl _), if_neg (UInt8.lt_irrefl _)]
    exact ih (i + 1) (by omega) (by omega)
   ·simp only [if_neg e, Option.bind_some]
    have e3 : (s[i] < t[i]) ↔ bt s i < bt t i := by
     rw [bt_get s i hi, bt_get t i hj, UInt8.lt_iff_toNat_lt]; omega
    have e4 : (t[i] < s[i]) ↔ bt t i < bt s i := by
     rw [bt_get s i hi, bt_get t i hj, UInt8.lt_iff_toNat_lt]; omega
    by_cases h5 : bt s i < bt t i
    ·rw [if_pos h5, if_pos (e3.2 h5)]; exact Ev.now _
    ·rw [if_neg h5, if_pos (show bt t i < bt s i by omega), if_neg (fun h => h5 (e3.1 h)), if_pos (e4.2 (by omega))]; exact Ev.now _
  ·refine Ev.step (fun k => by rw [qf53.l0, if_pos (by omega), decide_eq_false (by omega)]) ?_
   refine Ev.step (fun k => by rw [qf53.j1, if_neg (by decide), order_eq, Option.bind_some]) ?_
   rw [strings_end s t i (by omega) ht (by omega)]
   exact Ev.now _
theorem ev_strings (s t : ByteArray) (hs : s.size ≤ 1000000) : Ev (fun k => qf53.f k s t) (cmpS s t) := strings_loop s t hs s.size 0 (by omega) (by omega)
end Go.Proofs.YtghommaokdhjmaaGreat.SpecB
namespace Go.Proofs.YtghommaokdhjmaaGreat.Sat
open Go.RowKit Go.Lib Go.Sort Go.Proofs.SymP Go.Proofs.YtghommaokdhjmaaGreatW.PrintWords P FactC IRow Frm SpecM SpecB PSat PSpec CmpF BothB SortStr Str
theorem cStrings {W : World} {s t : ByteArray} (hs : s.size ≤ 1000000) : Calls Tryz.prog 53 #[.string s, .string t] W fun e w' => e = .returned (.int .i64 (cmpS s t)) ∧ Go.RowKit.Below W.heap.size W w' := by
 obtain ⟨k, hk⟩ := (ev_strings s t hs).rounds
 exact (qf53.calls k s t _ W hk).mono fun e w' h => ⟨h.1, h.2.below⟩
theorem cWord {W : World} {s : ByteArray} (hs : s.size ≤ 1000000) (v : Bool) : Calls Tryz.prog 51 #[.string s, .bool v] W fun e w' => e = .returned (.bool (wordP s v)) ∧ Go.RowKit.Below W.heap.size W w' := by
 obtain ⟨k, hk⟩ := (ev_word s hs v).rounds
 exact (qf51.calls k s v _ W hk).mono fun e w' h => ⟨h.1, h.2.below⟩
theorem cValue {W : World} {a b : Int} {s : ByteArray} (hs : s.size ≤ 1000000) : Calls Tryz.prog 52 #[.agg #[.int .i64 a, .int .i64 b, .string s]] W fun e w' => e = .returned (.bool (valP a b s == 0)) ∧ Go.RowKit.Below W.heap.size W w' := by
 obtain ⟨k, hk⟩ := (ev_value a b s hs).rounds
 exact qf52.calls k a b s _ W hk
set_option maxHeartbeats 8000000 in
set_option maxRecDepth 1000000 in
theorem rbinds_calls {w : World} {B : Option Addr} {bn bc : Nat} {b : List S66} (hb : BRow w B bn bc b) (hf : fitB b = true) : Calls Tryz.prog 22 #[.slice B bn bc] w fun e w' => e = .returned (.bool (chkP b == 0)) ∧ Go.RowKit.Below w.heap.size w w' := by
 have hu := Tryz.underlying66
 have hu2 := Tryz.underlying64
 have hlen := hb.len
 have hcap := hb.cap
 by_cases h100 : 100 < bn
 ·have d : decide (100 < (bn : Int)) = true := decide_eq_true (by omega)
  have hr : (chkP b == 0) = false := by unfold chkP; rw [if_pos (by omega)]; rfl
  rw [hr]
  clear hb hf hr
  go_enter Tryz.func22, Tryz.ntmps22
  go_wp2
  go_ret
  exact ⟨rfl, Go.RowKit.Below.refl _ _⟩
 have d : decide (100 < (bn : Int)) = false := decide_eq_false (by omega)
 obtain ⟨v, hv⟩ : ∃ v, allFrom (chkT b) bn 0 = v := ⟨_, rfl⟩
 have hr : (chkP b == 0) = v := by
  unfold chkP
  rw [if_neg (by omega), hlen, hv]
  cases v <;> rfl
 rw [hr]
 have HR := Aside0.mk hb
 have HF := Aside0.mk hf
 have HV := Aside0.mk hv
 have mixed : Tryz.prog.follows .mixedOrders = true := by kernel_rfl
 clear hb hf hr hv
 go_enter Tryz.func22, Tryz.ntmps22
 go_wp2
 go_loopg [3] bn (fun gg s3 wr => ∃ j : Nat, s3 = .int .i64 j ∧ j ≤ bn ∧ bn - j ≤ gg ∧ Aside0 (Go.RowKit.Below w.heap.size w wr ∧ allFrom (chkT b) (bn - j) j = v))
 case atStart => exact ⟨0, rfl, Nat.zero_le _, Nat.le_refl _, ⟨Go.RowKit.Below.refl _ _, by rw [Nat.sub_zero]; exact HV.out⟩⟩
 case round =>
  clear HV
  obtain ⟨j, rfl, hj, hg, HI⟩ := hrel
  by_cases hlt : j < bn
  ·have hltz : (j : Int) < (bn : Int) := by omega
   have hjz : (0 : Int) ≤ (j : Int) := by omega
   have HT : Aside0 (allFrom (chkT b) (bn - j) j = (chkT b j && allFrom (chkT b) (bn - (j + 1)) (j + 1))) := ⟨by rw [show bn - j = (bn - (j + 1)) + 1 by omega, allFrom]⟩
   obtain ⟨ad, eB, x0, x1, x2, x3⟩ := at_T66 (HR.out.below HI.out.1).C (j : Int) hjz hltz
   rw [show ((j : Int)).toNat * 4 = j * 4 by omega] at x0 x1 x2 x3
   have HFx := Aside0.mk (fitB_at HF.out (show j < b.length by omega))
   obtain ⟨x, hx⟩ : ∃ x, rd_T66 b (j : Int) = x := ⟨_, rfl⟩
   rw [hx] at x0 x1 x2 x3 HFx
   -- the one ahead
   obtain ⟨i, hi⟩ : ∃ i, i = j - 1 := ⟨_, rfl⟩
   obtain ⟨ad', eB', p0, _, _, _⟩ := at_T66 (HR.out.below HI.out.1).C (i : Int) (by omega) (by omega)
   rw [eB] at eB'
   obtain rfl : ad = ad' := Option.some.inj eB'
   rw [show ((i : Int)).toNat * 4 = i * 4 by omega] at p0
   have HFp := Aside0.mk (fitB_at HF.out (show i < b.length by omega))
   obtain ⟨y, hy⟩ : ∃ y, rd_T66 b (i : Int) = y := ⟨_, rfl⟩
   rw [hy] at p0 HFp
   have HC : Aside0 (chkT b j = ((varP x.f0 && (valP x.f1.f0 x.f1.f1 x.f1.f2 == 0)) && (decide (j = 0) || decide (cmpS y.f0 x.f0 < 0)))) := ⟨by
    unfold chkT rightP
    rw [hx, ← hi, hy]
    congr 2
    rw [Bool.eq_iff_iff, less_iff, decide_eq_true_eq]⟩
   subst eB
   have r0 := cell_regrown x0
   have r1 := cell_regrown x1
   have r2 := cell_regrown x2
   have r3 := cell_regrown x3
   have rp := cell_regrown p0
   have c1 : ∀ d os, Calls Tryz.prog 51 #[.string x.f0, .bool true] (grow (redrawn wr d) os) fun e w'' => e = .returned (.bool (varP x.f0)) ∧ ∃ p : Regrown, w'' = grow (redrawn wr p.d) p.os := fun d os => Calls.regrown_of (by have := cWord (W := grow (redrawn wr d) os) HFx.out.1 true; rwa [word_var] at this)
   have c2 : ∀ d os, Calls Tryz.prog 52 #[.agg #[.int .i64 x.f1.f0, .int .i64 x.f1.f1, .string x.f1.f2]] (grow (redrawn wr d) os) fun e w'' => e = .returned (.bool (valP x.f1.f0 x.f1.f1 x.f1.f2 == 0)) ∧ ∃ p : Regrown, w'' = grow (redrawn wr p.d) p.os := fun d os => Calls.regrown_of (cValue HFx.out.2)
   have c3 : ∀ d os, Calls Tryz.prog 53 #[.string y.f0, .string x.f0] (grow (redrawn wr d) os) fun e w'' => e = .returned (.int .i64 (cmpS y.f0 x.f0)) ∧ ∃ p : Regrown, w'' = grow (redrawn wr p.d) p.os := fun d os => Calls.regrown_of (cStrings HFp.out.1)
   have kw : IntKind.i64.wrap ((j : Int) + 1) = ((j + 1 : Nat) : Int) := by rw [show (j : Int) + 1 = ((j + 1 : Nat) : Int) by omega]; exact kwrap (by omega) (by omega)
   have hj0 : (j = 0 ∧ decide ((0 : Int) < (j : Int)) = false ∧ decide (0 < j) = false) ∨ (j ≠ 0 ∧ decide ((0 : Int) < (j : Int)) = true ∧ decide (0 < j) = true ∧ IntKind.i64.wrap ((j : Int) - 1) = (i : Int)) := by
    by_cases h0 : j = 0
    ·exact .inl ⟨h0, decide_eq_false (by omega), decide_eq_false (by omega)⟩
    ·exact .inr ⟨h0, decide_eq_true (by omega), decide_eq_true (by omega), by rw [show (j : Int) - 1 = (i : Int) by omega]; exact kwrap (by omega) (by omega)⟩
   have i0 : (0 : Int) ≤ (i : Int) := by omega
   have i1 : (i : Int) < (bn : Int) := by omega
   have HJ := Aside0.mk hlt
   clear hx hy hi x0 x1 x2 x3 p0 eB' HFx HFp
   generalize varP x.f0 = q1 at *
   generalize (valP x.f1.f0 x.f1.f1 x.f1.f2 == 0) = q2 at *
   generalize cmpS y.f0 x.f0 = s at *
   have hc : (q1 = false) ∨ (q1 = true ∧ q2 = false) ∨ (q1 = true ∧ q2 = true ∧ j = 0 ∧ decide ((0 : Int) < (j : Int)) = false ∧ decide (0 < j) = false) ∨ (q1 = true ∧ q2 = true ∧ j ≠ 0 ∧ decide ((0 : Int) < (j : Int)) = true ∧ decide (0 < j) = true ∧ IntKind.i64.wrap ((j : Int) - 1) = (i : Int) ∧ decide (0 ≤ s) = true) ∨ (q1 = true ∧ q2 = true ∧ j ≠ 0 ∧ decide ((0 : Int) < (j : Int)) = true ∧ decide (0 < j) = true ∧ IntKind.i64.wrap ((j : Int) - 1) = (i : Int) ∧ decide (0 ≤ s) = false) := by
    cases q1
    ·exact .inl rfl
    ·cases q2
     ·exact .inr (.inl ⟨rfl, rfl⟩)
     ·rcases hj0 with h | h
      ·exact .inr (.inr (.inl ⟨rfl, rfl, h⟩))
      ·cases hs : decide (0 ≤ s)
       ·exact .inr (.inr (.inr (.inr ⟨rfl, rfl, h.1, h.2.1, h.2.2.1, h.2.2.2, rfl⟩)))
       ·exact .inr (.inr (.inr (.inl ⟨rfl, rfl, h.1, h.2.1, h.2.2.1, h.2.2.2, rfl⟩)))
   clear hj0
   go_upto_region 6 with fail
   rcases hc with rfl | ⟨rfl, rfl⟩ | ⟨rfl, rfl, h0, d0, d1⟩ | ⟨rfl, rfl, h0, d0, d1, kw2, ds⟩ | ⟨rfl, rfl, h0, d0, d1, kw2, ds⟩
   all_goals (
    (try have H0 := Aside0.mk h0)
    (try clear h0)
    (try have DS := Aside0.mk ds)
    refine wp_region_quiet_below mixed (by kernel_rfl) ?_
    repeat (first | go_big_quiet_step (first | exact c1 _ _ | exact c2 _ _ | exact c3 _ _) | quiet_step (first | exact c1 _ _ | exact c2 _ _ | exact c3 _ _))
    refine wpQuiet_nil ?_
    intro _ hw'
    obtain ⟨⟨dq, osq⟩, hw''⟩ := hw'
    subst hw''
    have HB2 := Aside0.mk (HI.out.1.trans ((below_regrown wr dq osq).mono HI.out.1.size))
    clear c1 c2 c3 r0 r1 r2 r3 rp
    go_wp2)
   ·go_ret
    exact ⟨by rw [← HI.out.2, HT.out, HC.out]; rfl, HB2.out⟩
   ·go_ret
    exact ⟨by rw [← HI.out.2, HT.out, HC.out]; rfl, HB2.out⟩
   ·go_roundg (bn - (j + 1))
    case measure => have := HJ.out; omega
    case rel => exact ⟨j + 1, by go_num, by have := HJ.out; omega, Nat.le_refl _, ⟨HB2.out, by rw [← HI.out.2, HT.out, HC.out, decide_eq_true H0.out]; simp⟩⟩
   ·go_ret
    exact ⟨by rw [← HI.out.2, HT.out, HC.out, decide_eq_false H0.out, decide_eq_false (show ¬ s < 0 by have := of_decide_eq_true DS.out; omega)]; rfl, HB2.out⟩
   ·go_roundg (bn - (j + 1))
    case measure => have := HJ.out; omega
    case rel => exact ⟨j + 1, by go_num, by have := HJ.out; omega, Nat.le_refl _, ⟨HB2.out, by rw [← HI.out.2, HT.out, HC.out, decide_eq_true (show s < 0 by have := of_decide_eq_false DS.out; omega)]; simp⟩⟩
  ·have hltz : ¬ (j : Int) < (bn : Int) := by omega
   have HV2 : Aside0 (v = true) := ⟨by rw [← HI.out.2, show bn - j = 0 by omega]; rfl⟩
   go_wp2
   go_ret
   exact ⟨by rw [HV2.out]; rfl, HI.out.1⟩
end Go.Proofs.YtghommaokdhjmaaGreat.Sat
namespace Go.Proofs.YtghommaokdhjmaaGreat.P
open Go.RowKit Go.Proofs.YtghommaokdhjmaaGreatW.PrintWords Go.Proofs.YtghommaokdhjmaaGreatW.PrintLast Gate
def qf12.l0 : Nat → List (S66) → Int → Option (Bool)
 | 0, _, _ => none
 | k + 1, x0, x3 => if x3 < (x0.length : Int) then (if 0 ≤ x3 then (if (((rd_T66 x0 x3).f0).size : Int) > 200 then (some true) else (if (((rd_T66 x0 x3).f1.f2).size : Int) > 200 then (some true) else (qf12.l0 k x0 (wrap64 (x3 + 1))))) else (none)) else (some false)
def qf12.f (k : Nat) (l0 : List (S66)) : Option (Bool) := if (l0.length : Int) > 110 then (some true) else (qf12.l0 k l0 0)
set_option maxHeartbeats 8000000 in
set_option maxRecDepth 100000 in
theorem qf12.calls (k : Nat) (A0 : Option Addr) (c0 : Nat) (l0 : List (S66)) (r : Bool) (w : World) (hr0 : Kd.C k66 w A0 l0.length l0) (hc0 : l0.length ≤ c0) (h : qf12.f k l0 = some r) :
  Calls Tryz.prog 12 #[.slice A0 l0.length c0] w fun e w' => e = .returned (.bool r) ∧ Drawn0 w w' := by
 have HR0 := Aside0.mk hr0
 have HC0 := Aside0.mk hc0
 clear hr0 hc0
 have H : (if (l0.length : Int) > 110 then (some true) else (qf12.l0 k l0 0)) = some r := h
 clear h
 by_cases c2 : (l0.length : Int) > 110
 ·rw [if_pos c2] at H
  have c2b0 : decide (110 < (l0.length : Int)) = true := decide_eq_true c2
  have c2b1 : decide (110 < l0.length) = true := decide_eq_true (by omega)
  clear c2
  obtain rfl := Option.some.inj H
  go_enter Tryz.func12, Tryz.ntmps12
  go_wp2
  go_ret
  exact drz
 ·rw [if_neg c2] at H
  have c2b0 : decide (110 < (l0.length : Int)) = false := decide_eq_false c2
  have c2b1 : decide (110 < l0.length) = false := decide_eq_false (by omega)
  clear c2
  have H' := Aside0.mk H
  clear H
  go_enter Tryz.func12, Tryz.ntmps12
  go_wp2
  go_loopg [3] k (fun kq v3 w' => ∃ (x3_1 : Int), v3 = .int .i64 x3_1 ∧ Aside0 (qf12.l0 kq l0 x3_1 = some r) ∧ Aside0 (kq ≤ k) ∧ Drawn0 w w')
  case atStart => exact ⟨(0), (by first | rfl | (simp; done) | (simp [*]; done)), H', ⟨Nat.le_refl _⟩, by repeat (first | exact Drawn0.refl _ | apply Drawn0.step)⟩
  case round =>
   clear H'
   (try clear c1); (try clear c2); (try clear c2b0); (try clear c2b1); (try clear p2)
   obtain ⟨x3_1, rfl, HA, HK1, ⟨m1, rfl⟩⟩ := hrel
   cases gk with
   | zero => exact absurd HA.out (by simp [qf12.l0])
   | succ k1 =>
    have H := HA.out
    clear HA
    simp only [qf12.l0] at H
    by_cases c3 : x3_1 < (l0.length : Int)
    ·rw [if_pos c3] at H
     have c3b0 : decide (x3_1 < (l0.length : Int)) = true := decide_eq_true c3
     clear c3
     by_cases c4 : 0 ≤ x3_1
     ·rw [if_pos c4] at H
      have c4b0 : decide (0 ≤ x3_1) = true := decide_eq_true c4
      clear c4
      by_cases c5 : (((rd_T66 l0 x3_1).f0).size : Int) > 200
      ·rw [if_pos c5] at H
       have c5b0 : decide (200 < (((rd_T66 l0 x3_1).f0).size : Int)) = true := decide_eq_true c5
       have c5b1 : decide (200 < ((rd_T66 l0 x3_1).f0).size) = true := decide_eq_true (by omega)
       clear c5
       obtain rfl := Option.some.inj H
       have p112 : 0 ≤ (x3_1 : Int) := of_decide_eq_true (by first | (with_reducible assumption) | assumption)
       have q112 : x3_1 < (l0.length : Int) := of_decide_eq_true (by first | (with_reducible assumption) | assumption)
       obtain ⟨ad112, e112, hx112_0, hx112_1, hx112_2, hx112_3⟩ := at_T66 HR0.out x3_1 p112 q112
       cases e112
       replace p112 := eq_true p112
       replace q112 := eq_true q112
       go_wp2
       go_ret
       exact drz
      ·rw [if_neg c5] at H
       have c5b0 : decide (200 < (((rd_T66 l0 x3_1).f0).size : Int)) = false := decide_eq_false c5
       have c5b1 : decide (200 < ((rd_T66 l0 x3_1).f0).size) = false := decide_eq_false (by omega)
       clear c5
       by_cases c6 : (((rd_T66 l0 x3_1).f1.f2).size : Int) > 200
       ·rw [if_pos c6] at H
        have c6b0 : decide (200 < (((rd_T66 l0 x3_1).f1.f2).size : Int)) = true := decide_eq_true c6
        have c6b1 : decide (200 < ((rd_T66 l0 x3_1).f1.f2).size) = true := decide_eq_true (by omega)
        clear c6
        obtain rfl := Option.some.inj H
        have p112 : 0 ≤ (x3_1 : Int) := of_decide_eq_true (by first | (with_reducible assumption) | assumption)
        have q112 : x3_1 < (l0.length : Int) := of_decide_eq_true (by first | (with_reducible assumption) | assumption)
        obtain ⟨ad112, e112, hx112_0, hx112_1, hx112_2, hx112_3⟩ := at_T66 HR0.out x3_1 p112 q112
        cases e112
        replace p112 := eq_true p112
        replace q112 := eq_true q112
        have p113 : 0 ≤ (x3_1 : Int) := of_decide_eq_true (by first | (with_reducible assumption) | assumption)
        have q113 : x3_1 < (l0.length : Int) := of_decide_eq_true (by first | (with_reducible assumption) | assumption)
        obtain ⟨ad113, e113, hx113_0, hx113_1, hx113_2, hx113_3⟩ := at_T66 HR0.out x3_1 p113 q113
        obtain rfl : ad112 = ad113 := (by injection e113)
        replace p113 := eq_true p113
        replace q113 := eq_true q113
        go_wp2
        go_ret
        exact drz
       ·rw [if_neg c6] at H
        have c6b0 : decide (200 < (((rd_T66 l0 x3_1).f1.f2).size : Int)) = false := decide_eq_false c6
        have c6b1 : decide (200 < ((rd_T66 l0 x3_1).f1.f2).size) = false := decide_eq_false (by omega)
        clear c6
        have H' := Aside0.mk H
        clear H
        have p112 : 0 ≤ (x3_1 : Int) := of_decide_eq_true (by first | (with_reducible assumption) | assumption)
        have q112 : x3_1 < (l0.length : Int) := of_decide_eq_true (by first | (with_reducible assumption) | assumption)
        obtain ⟨ad112, e112, hx112_0, hx112_1, hx112_2, hx112_3⟩ := at_T66 HR0.out x3_1 p112 q112
        cases e112
        replace p112 := eq_true p112
        replace q112 := eq_true q112
        have p113 : 0 ≤ (x3_1 : Int) := of_decide_eq_true (by first | (with_reducible assumption) | assumption)
        have q113 : x3_1 < (l0.length : Int) := of_decide_eq_true (by first | (with_reducible assumption) | assumption)
        obtain ⟨ad113, e113, hx113_0, hx113_1, hx113_2, hx113_3⟩ := at_T66 HR0.out x3_1 p113 q113
        obtain rfl : ad112 = ad113 := (by injection e113)
        replace p113 := eq_true p113
        replace q113 := eq_true q113
        go_wp2
        go_roundg k1
        case measure => have := HK1.out; omega
        case rel => exact ⟨(wrap64 (x3_1 + 1)), (by first | rfl | (simp; done) | (simp [*]; done)), H', ⟨by have := HK1.out; omega⟩, by repeat (first | exact Drawn0.refl _ | apply Drawn0.step)⟩
     ·rw [if_neg c4] at H
      exact absurd H (by simp)
    ·rw [if_neg c3] at H
     have c3b0 : decide (x3_1 < (l0.length : Int)) = false := decide_eq_false c3
     clear c3
     obtain rfl := Option.some.inj H
     go_wp2
     go_ret
     exact drz
end Go.Proofs.YtghommaokdhjmaaGreat.P
/- The printed functions of layer 5 and of its statements answer their plain forms from some number of rounds on; texts no longer than a million bytes. -/
namespace Go.Proofs.YtghommaokdhjmaaGreat.SpecB
open Go.Shelf Go.RowKit Go.Lib Go.Sort Go.Proofs.SymP Go.Proofs.YtghommaokdhjmaaGreatW.PrintWords Go.Proofs.YtghommaokdhjmaaGreatW.PrintLast Gate P Str PSpec BothB
def heavyX (x : S66) : Bool := decide (200 < x.f0.size) || decide (200 < x.f1.f2.size)
def heavyP (l : List S66) : Bool := decide (110 < l.length) || l.any heavyX
theorem heavy_loop (l : List S66) (hl : l.length ≤ 1000000) : ∀ (m i : Nat), i + m = l.length → Ev (fun k => qf12.l0 k l i) ((l.drop i).any heavyX) := by
 intro m
 induction m with
 | zero =>
  intro i h
  refine Ev.step (fun k => by rw [qf12.l0, if_neg (by omega)]) ?_
  rw [List.drop_eq_nil_of_le (by omega)]
  exact Ev.now _
 | succ m ih =>
  intro i h
  have hi : i < l.length := by omega
  refine Ev.step (fun k => by rw [qf12.l0, if_pos (by omega), if_pos (by omega), rd_get hi, w64 hl hi]) ?_
  rw [List.drop_eq_getElem_cons hi, List.any_cons, heavyX]
  by_cases h1 : 200 < l[i].f0.size
  ·simp only [if_pos (show (l[i].f0.size : Int) > 200 by omega), decide_eq_true h1, Bool.true_or]; exact Ev.now _
  ·by_cases h2 : 200 < l[i].f1.f2.size
   ·simp only [if_neg (show ¬ (l[i].f0.size : Int) > 200 by omega), if_pos (show (l[i].f1.f2.size : Int) > 200 by omega), decide_eq_true h2, Bool.true_or, Bool.or_true]; exact Ev.now _
   ·simp only [if_neg (show ¬ (l[i].f0.size : Int) > 200 by omega), if_neg (show ¬ (l[i].f1.f2.size : Int) > 200 by omega), decide_eq_false h1, decide_eq_false h2, Bool.false_or]; exact ih (i + 1) (by omega)
theorem ev_heavy (l : List S66) : Ev (fun k => qf12.f k l) (heavyP l) := by
 unfold qf12.f heavyP
 by_cases h : 110 < l.length
 ·simp only [if_pos (show (l.length : Int) > 110 by omega), decide_eq_true h, Bool.true_or]; exact Ev.now _
 ·simp only [if_neg (show ¬ (l.length : Int) > 110 by omega), decide_eq_false h, Bool.false_or]
  exact heavy_loop l (by omega) l.length 0 (by omega)
def bE : S66 := ⟨⟨#[]⟩, ⟨0, 0, ⟨#[]⟩⟩⟩
end Go.Proofs.YtghommaokdhjmaaGreat.SpecB
namespace Go.Proofs.YtghommaokdhjmaaGreat.P
open Go.RowKit Go.Proofs.YtghommaokdhjmaaGreatW.PrintWords Go.Proofs.YtghommaokdhjmaaGreatW.PrintLast Gate
def qf54.l0 : Nat → List (S66) → ByteArray → Int → Option (Int × Int × ByteArray × Bool)
 | 0, _, _, _ => none
 | k + 1, x0, x1, x6 => if x6 < (x0.length : Int) then (if 0 ≤ x6 then (if ((rd_T66 x0 x6).f0).toList = x1.toList then (some ((rd_T66 x0 x6).f1.f0, (rd_T66 x0 x6).f1.f1, (rd_T66 x0 x6).f1.f2, true)) else (qf54.l0 k x0 x1 (wrap64 (x6 + 1)))) else (none)) else (some (0, 0, (⟨#[]⟩ : ByteArray), false))
def qf54.f (k : Nat) (l0 : List (S66)) (a1 : ByteArray) : Option (Int × Int × ByteArray × Bool) := qf54.l0 k l0 a1 0
set_option maxHeartbeats 8000000 in
set_option maxRecDepth 100000 in
theorem qf54.calls (k : Nat) (A0 : Option Addr) (c0 : Nat) (l0 : List (S66)) (a1 : ByteArray) (r1 : Int) (r2 : Int) (r3 : ByteArray) (r4 : Bool) (w : World) (hr0 : Kd.C k66 w A0 l0.length l0) (hc0 : l0.length ≤ c0) (h : qf54.f k l0 a1 = some (r1, r2, r3, r4)) :
  Calls Tryz.prog 54 #[.slice A0 l0.length c0, .string a1] w fun e w' => e = .returned (.tuple #[.agg #[.int .i64 r1, .int .i64 r2, .string r3], .bool r4]) ∧ Below w.heap.size w w' := by
 have hu64 := Tryz.underlying64
 have HR0 := Aside0.mk hr0
 have HC0 := Aside0.mk hc0
 clear hr0 hc0
 have HB := Aside0.mk (Below.refl w.heap.size w)
 have H : (qf54.l0 k l0 a1 0) = some (r1, r2, r3, r4) := h
 clear h
 have H' := Aside0.mk H
 clear H
 go_enter Tryz.func54, Tryz.ntmps54
 go_wp2_with (first | ((with_reducible refine gate_dst (N := 4) rfl ?_); refine bE (N := 4) (cs := #[.int .i64 0, .int .i64 0, .string (⟨#[]⟩ : ByteArray)]) (t := 64) ?_; intro gb893 hg w3 hbox hb; have n0_ := Aside0.mk (below_step bB0 hb); have n1_ := Aside0.mk (hbox); have n2_ := Aside0.mk ((by rw [hg]; exact (below_size bB0) : w.heap.size ≤ gb893)); have n3_ := Aside0.mk ((by rw [hg]; exact (below_size bB0) : w.heap.size ≤ gb893)); clear HB; have HB := n0_; have BK893 := n1_; have GW893 := n2_; have GE893 := n3_; clear n0_ n1_ n2_ n3_; clear hb hbox hg))
 go_loopg [6] k (fun kq v6 w' => ∃ (x6_1 : Int) (x894000_1 : Int) (x894001_1 : Int) (x894002_1 : ByteArray), v6 = .int .i64 x6_1 ∧ Aside0 (qf54.l0 kq l0 a1 x6_1 = some (r1, r2, r3, r4)) ∧ Aside0 (kq ≤ k) ∧ Aside0 (w'.heap[gb893]? = some (.cells #[.int .i64 x894000_1, .int .i64 x894001_1, .string x894002_1] 64 (0, 0))) ∧ Aside0 (Below w.heap.size w w'))
 case atStart => exact ⟨(0), (0), (0), ((⟨#[]⟩ : ByteArray)), (by first | rfl | (simp; done) | (simp [*]; done)), H', ⟨Nat.le_refl _⟩, ⟨by refine bk ?_; exact BK893.out⟩, ⟨(bB1 GE893.out)⟩⟩
 case round =>
  clear H'
  (try clear p2)
  obtain ⟨x6_1, x894000_1, x894001_1, x894002_1, rfl, HA, HK1, BK893, HB⟩ := hrel
  cases gk with
  | zero => exact absurd HA.out (by simp [qf54.l0])
  | succ k1 =>
   have H := HA.out
   clear HA
   simp only [qf54.l0] at H
   by_cases c4 : x6_1 < (l0.length : Int)
   ·rw [if_pos c4] at H
    have c4b0 : decide (x6_1 < (l0.length : Int)) = true := decide_eq_true c4
    clear c4
    by_cases c5 : 0 ≤ x6_1
    ·rw [if_pos c5] at H
     have c5b0 : decide (0 ≤ x6_1) = true := decide_eq_true c5
     clear c5
     by_cases c6 : ((rd_T66 l0 x6_1).f0).toList = a1.toList
     ·rw [if_pos c6] at H
      have c6b0 : (((rd_T66 l0 x6_1).f0).toList == a1.toList) = true := beq_iff_eq.mpr c6
      have c6b1 : (((rd_T66 l0 x6_1).f0).toList != a1.toList) = false := bne_eq_false_iff_eq.mpr c6
      clear c6
      simp only [Option.some.injEq, Prod.mk.injEq] at H
      obtain ⟨rfl, rfl, rfl, rfl⟩ := H
      have p894 : 0 ≤ (x6_1 : Int) := of_decide_eq_true (by first | (with_reducible assumption) | assumption)
      have q894 : x6_1 < (l0.length : Int) := of_decide_eq_true (by first | (with_reducible assumption) | assumption)
      obtain ⟨ad894, e894, hx894_0, hx894_1, hx894_2, hx894_3⟩ := at_T66 HR0.out x6_1 p894 q894
      cases e894
      replace hx894_0 := mvc HB.out hx894_0
      replace hx894_1 := mvc HB.out hx894_1
      replace hx894_2 := mvc HB.out hx894_2
      replace hx894_3 := mvc HB.out hx894_3
      replace p894 := eq_true p894
      replace q894 := eq_true q894
      have p895 : 0 ≤ (x6_1 : Int) := of_decide_eq_true (by first | (with_reducible assumption) | assumption)
      have q895 : x6_1 < (l0.length : Int) := of_decide_eq_true (by first | (with_reducible assumption) | assumption)
      obtain ⟨ad895, e895, hx895_0, hx895_1, hx895_2, hx895_3⟩ := at_T66 HR0.out x6_1 p895 q895
      obtain rfl : ad894 = ad895 := (by injection e895)
      replace hx895_0 := mvc HB.out hx895_0
      replace hx895_1 := mvc HB.out hx895_1
      replace hx895_2 := mvc HB.out hx895_2
      replace hx895_3 := mvc HB.out hx895_3
      replace p895 := eq_true p895
      replace q895 := eq_true q895
      have hcz7_0 : wr.cell? ⟨gb893, 0, none⟩ = some (.int .i64 x894000_1) := (blk_cell BK893.out 0).trans rfl
      have hcz7_1 : wr.cell? ⟨gb893, 1, none⟩ = some (.int .i64 x894001_1) := (blk_cell BK893.out 1).trans rfl
      have hcz7_2 : wr.cell? ⟨gb893, 2, none⟩ = some (.string x894002_1) := (blk_cell BK893.out 2).trans rfl
      have hfz7_0 := blk_frozen BK893.out 0
      have hfz7_1 := blk_frozen BK893.out 1
      have hfz7_2 := blk_frozen BK893.out 2
      go_wp2
      refine bodyPost_ret (results_ct rfl _ _ gb893 64 #[.int .i64 ((rd_T66 l0 x6_1).f1.f0), .int .i64 ((rd_T66 l0 x6_1).f1.f1), .string ((rd_T66 l0 x6_1).f1.f2)] (0, 0) _ rfl (by refine bk ?_; refine blk_put (cs := #[.int .i64 ((rd_T66 l0 x6_1).f1.f0), .int .i64 ((rd_T66 l0 x6_1).f1.f1), .string x894002_1]) ?_ 2 _ rfl; refine bk ?_; refine blk_put (cs := #[.int .i64 ((rd_T66 l0 x6_1).f1.f0), .int .i64 x894001_1, .string x894002_1]) ?_ 1 _ rfl; refine bk ?_; refine blk_put (cs := #[.int .i64 x894000_1, .int .i64 x894001_1, .string x894002_1]) ?_ 0 _ rfl; refine bk ?_; exact BK893.out) Tryz.underlying64 rfl (by kernel_rfl)) rfl ?_
      exact ⟨eW, (bB1 GE893.out)⟩
     ·rw [if_neg c6] at H
      have c6b0 : (((rd_T66 l0 x6_1).f0).toList == a1.toList) = false := beq_eq_false_iff_ne.mpr c6
      have c6b1 : (((rd_T66 l0 x6_1).f0).toList != a1.toList) = true := bne_iff_ne.mpr c6
      have H' := Aside0.mk H
      clear H
      have p894 : 0 ≤ (x6_1 : Int) := of_decide_eq_true (by first | (with_reducible assumption) | assumption)
      have q894 : x6_1 < (l0.length : Int) := of_decide_eq_true (by first | (with_reducible assumption) | assumption)
      obtain ⟨ad894, e894, hx894_0, hx894_1, hx894_2, hx894_3⟩ := at_T66 HR0.out x6_1 p894 q894
      cases e894
      replace hx894_0 := mvc HB.out hx894_0
      replace hx894_1 := mvc HB.out hx894_1
      replace hx894_2 := mvc HB.out hx894_2
      replace hx894_3 := mvc HB.out hx894_3
      replace p894 := eq_true p894
      replace q894 := eq_true q894
      go_wp2
      go_roundg k1
      case measure => have := HK1.out; omega
      case rel => exact ⟨(wrap64 (x6_1 + 1)), (x894000_1), (x894001_1), (x894002_1), (by first | rfl | (simp; done) | (simp [*]; done)), H', ⟨by have := HK1.out; omega⟩, ⟨by refine bk ?_; exact BK893.out⟩, ⟨(bB1 GE893.out)⟩⟩
    ·rw [if_neg c5] at H
     exact absurd H (by simp)
   ·rw [if_neg c4] at H
    have c4b0 : decide (x6_1 < (l0.length : Int)) = false := decide_eq_false c4
    clear c4
    simp only [Option.some.injEq, Prod.mk.injEq] at H
    obtain ⟨rfl, rfl, rfl, rfl⟩ := H
    have hcz8_0 : wr.cell? ⟨gb893, 0, none⟩ = some (.int .i64 x894000_1) := (blk_cell BK893.out 0).trans rfl
    have hcz8_1 : wr.cell? ⟨gb893, 1, none⟩ = some (.int .i64 x894001_1) := (blk_cell BK893.out 1).trans rfl
    have hcz8_2 : wr.cell? ⟨gb893, 2, none⟩ = some (.string x894002_1) := (blk_cell BK893.out 2).trans rfl
    have hfz8_0 := blk_frozen BK893.out 0
    have hfz8_1 := blk_frozen BK893.out 1
    have hfz8_2 := blk_frozen BK893.out 2
    go_wp2
    refine bodyPost_ret (results_ct rfl _ _ gb893 64 #[.int .i64 0, .int .i64 0, .string (⟨#[]⟩ : ByteArray)] (0, 0) _ rfl (by refine bk ?_; refine blk_put (cs := #[.int .i64 0, .int .i64 0, .string x894002_1]) ?_ 2 _ rfl; refine bk ?_; refine blk_put (cs := #[.int .i64 0, .int .i64 x894001_1, .string x894002_1]) ?_ 1 _ rfl; refine bk ?_; refine blk_put (cs := #[.int .i64 x894000_1, .int .i64 x894001_1, .string x894002_1]) ?_ 0 _ rfl; refine bk ?_; exact BK893.out) Tryz.underlying64 rfl (by kernel_rfl)) rfl ?_
    exact ⟨eW, (bB1 GE893.out)⟩
end Go.Proofs.YtghommaokdhjmaaGreat.P
