/- A part of the proof: walks of the code and plain laws, printed and by hand; no condition. -/
import Derived.Sort.LotA
import Derived.Test.YtghommaokdhjmaaGreatProg
import Derived.Shelf.SlSortCmp.KitK
import Derived.Shelf.SlSortCmp.InsertionK
import Derived.Sort.WalkB2
import Derived.Sort.WalkB12
import Derived.Deep.LoopGhost
import Derived.KernelRfl
import Derived.Test.YtghommaokdhjmaaGreatEWWords
import Derived.Lib.SlicesCompact
import Derived.Lib.SliceRun
import Derived.Below
import Derived.Shelf.RegionOpenPlain
import Derived.WalkKit
import Derived.Deep.Draws
import Derived.Deep.AppendLies
import Derived.Maps.AppendAt
import Derived.OwnWalk
import Derived.Laws.BytesArg
import Derived.Laws.MakeOwn
import Derived.Laws.OwnMore
import Derived.Deep.OwnRows
import Derived.Tactics
import Derived.Lib.ConvBytes
import Derived.Laws.Slices
import Derived.RowKit3
import Derived.Deep.QuietTactic
import Derived.BigQuiet
import Derived.WideLaws
import Derived.Deep.DeepCutAuto
import Derived.Deep.CutBlock
import Derived.Deep.RegionHeld3
import Derived.Laws.Rows
import Derived.Lib.AppendStr
import Derived.ArgAppend
import Derived.Laws.IdiomCopy
import Derived.OrdersHeld
import Derived.Laws.BitsLemmas
import Derived.RowKit
import Derived.Laws.Cover1
import Derived.Test.YtghommaokdhjmaaGreatEWLast
import Derived.Test.YtghommaokdhjmaaGreatEWTab
import Derived.Test.YtghommaokdhjmaaGreatEWApart
import Derived.Test.YtghommaokdhjmaaGreatEWEqStruct
import Derived.Test.YtghommaokdhjmaaGreatEWRepsOne
import Derived.Test.YtghommaokdhjmaaGreatEWGuard
import Derived.Lib.QuietBelow
import Derived.Deep.Upon
import Derived.Shelf.Small.Strs
import Derived.Shelf.Spec.SlicesGrow
import Derived.Lib.SlicesS
set_option linter.unusedVariables false
set_option linter.unusedSimpArgs false
/- Plain law of slices.SortStableFunc's merging: swapRange, rotate, symMerge as functions over an array; symMerge of two sorted parts is a sorted permutation. No condition but that 'less' is a strict weak order. -/
namespace Go.Proofs.SymP
open Go.Sort
variable {α : Type} [Inhabited α]

def swapFrom (a b : Nat) : Nat → Nat → Array α → Array α
 | _, 0, d => d
 | i, r + 1, d => swapFrom a b (i + 1) r (swp d (a + i) (b + i))
def swapRange (d : Array α) (a b n : Nat) : Array α := swapFrom a b 0 n d

def rotLoop (m : Nat) : Nat → Nat → Nat → Array α → Array α
 | 0, _, _, d => d
 | f + 1, i, j, d =>
  if i = j then swapRange d (m - i) m i
  else if j < i then rotLoop m f (i - j) j (swapRange d (m - i) m j)
  else rotLoop m f i (j - i) (swapRange d (m - i) (m + j - i) i)
def rotate (d : Array α) (a m b : Nat) : Array α := rotLoop m (b - a) (m - a) (b - m) d

def bs (q : Nat → Bool) : Nat → Nat → Nat → Nat
 | 0, i, _ => i
 | f + 1, i, j => if i < j then (if q ((i + j) / 2) = true then bs q f ((i + j) / 2 + 1) j else bs q f i ((i + j) / 2)) else i
def bubUp : Nat → Nat → Array α → Array α
 | 0, _, d => d
 | r + 1, k, d => bubUp r (k + 1) (swp d k (k + 1))
def bubDown : Nat → Nat → Array α → Array α
 | 0, _, d => d
 | r + 1, k, d => bubDown r (k - 1) (swp d k (k - 1))

def symMerge (lt : α → α → Bool) : Nat → Array α → Nat → Nat → Nat → Array α
 | 0, d, _, _, _ => d
 | f + 1, d, a, m, b =>
  if m - a = 1 then bubUp (bs (fun h => lt d[h]! d[a]!) (b - m) m b - 1 - a) a d
  else if b - m = 1 then bubDown (m - bs (fun h => !lt d[m]! d[h]!) (m - a) a m) m d
  else
   let mid := (a + b) / 2
   let n := mid + m
   let s0 := if mid < m then n - b else a
   let r0 := if mid < m then mid else m
   let st := bs (fun c => !lt d[n - 1 - c]! d[c]!) (r0 - s0) s0 r0
   let e := n - st
   let d1 := if st < m ∧ m < e then rotate d st m e else d
   let d2 := if a < st ∧ st < mid then symMerge lt f d1 a st mid else d1
   if mid < e ∧ e < b then symMerge lt f d2 mid e b else d2

theorem size_swapFrom (a b : Nat) : ∀ (r i : Nat) (d : Array α), (swapFrom a b i r d).size = d.size
 | 0, _, _ => rfl
 | r + 1, i, d => by rw [swapFrom, size_swapFrom a b r, swp_size]
theorem size_swapRange (d : Array α) (a b n : Nat) : (swapRange d a b n).size = d.size := size_swapFrom a b n 0 d
theorem swapFrom_get (a b : Nat) : ∀ (r i : Nat) (d : Array α), a + i + r ≤ b + i → b + i + r ≤ d.size → ∀ x,
  (swapFrom a b i r d)[x]! = if a + i ≤ x ∧ x < a + i + r then d[x - a + b]! else if b + i ≤ x ∧ x < b + i + r then d[x - b + a]! else d[x]!
 | 0, i, d, h1, h2, x => by
  rw [swapFrom, if_neg (by omega), if_neg (by omega)]
 | r + 1, i, d, h1, h2, x => by
  rw [swapFrom, swapFrom_get a b r (i + 1) _ (by omega) (by rw [swp_size]; omega) x]
  have g := fun y => swp_get d (i := a + i) (j := b + i) (by omega) (by omega) y
  by_cases c1 : a + i ≤ x ∧ x < a + i + (r + 1)
  ·rw [if_pos c1]
   by_cases e : x = a + i
   ·rw [if_neg (by omega), if_neg (by omega), g, if_neg (by omega), if_pos e]
    congr 1; omega
   ·rw [if_pos (by omega), g, if_neg (by omega), if_neg (by omega)]
  ·rw [if_neg c1]
   by_cases c2 : b + i ≤ x ∧ x < b + i + (r + 1)
   ·rw [if_pos c2]
    by_cases e : x = b + i
    ·rw [if_neg (by omega), if_neg (by omega), g, if_pos e]
     congr 1; omega
    ·rw [if_neg (by omega), if_pos (by omega), g, if_neg (by omega), if_neg (by omega)]
   ·rw [if_neg c2, if_neg (by omega), if_neg (by omega), g, if_neg (by omega), if_neg (by omega)]

theorem swapRange_get (d : Array α) (a b n : Nat) (h1 : a + n ≤ b) (h2 : b + n ≤ d.size) (x : Nat) :
  (swapRange d a b n)[x]! = if a ≤ x ∧ x < a + n then d[x - a + b]! else if b ≤ x ∧ x < b + n then d[x - b + a]! else d[x]! := by
 have := swapFrom_get a b n 0 d (by omega) (by omega) x
 simpa [swapRange] using this

theorem swapFrom_perm (lo hi a b : Nat) : ∀ (r i : Nat) (d : Array α), lo ≤ a + i → a + i + r ≤ hi → lo ≤ b + i → b + i + r ≤ hi → hi ≤ d.size → PermIn lo hi d (swapFrom a b i r d)
 | 0, i, d, _, _, _, _, _ => permIn_refl d lo hi
 | r + 1, i, d, h1, h2, h3, h4, h5 => by
  rw [swapFrom]
  exact permIn_trans _ _ _ _ _ (swp_permIn d lo hi (a + i) (b + i) (by omega) (by omega) (by omega) (by omega) h5) (swapFrom_perm lo hi a b r (i + 1) _ (by omega) (by omega) (by omega) (by omega) (by rw [swp_size]; exact h5))
theorem swapRange_perm (lo hi a b n : Nat) (d : Array α) (h1 : lo ≤ a) (h2 : a + n ≤ hi) (h3 : lo ≤ b) (h4 : b + n ≤ hi) (h5 : hi ≤ d.size) : PermIn lo hi d (swapRange d a b n) :=
 swapFrom_perm lo hi a b n 0 d (by omega) (by omega) (by omega) (by omega) h5

theorem rotLoop_get (m : Nat) : ∀ (f i j : Nat) (d : Array α), i + j ≤ f → 1 ≤ i → 1 ≤ j → i ≤ m → m + j ≤ d.size → ∀ x,
  (rotLoop m f i j d)[x]! = if m - i ≤ x ∧ x < m - i + j then d[x + i]! else if m - i + j ≤ x ∧ x < m + j then d[x - j]! else d[x]!
 | 0, i, j, d, hf, hi, hj, him, hsz, x => by omega
 | f + 1, i, j, d, hf, hi, hj, him, hsz, x => by
  unfold rotLoop
  by_cases e : i = j
  ·rw [if_pos e, swapRange_get d (m - i) m i (by omega) (by omega) x]
   by_cases c1 : m - i ≤ x ∧ x < m - i + j
   ·rw [if_pos (by omega), if_pos c1]; congr 1; omega
   ·rw [if_neg (by omega), if_neg c1]
    by_cases c2 : m - i + j ≤ x ∧ x < m + j
    ·rw [if_pos (by omega), if_pos c2]; congr 1; omega
    ·rw [if_neg (by omega), if_neg c2]
  ·rw [if_neg e]
   by_cases e2 : j < i
   ·rw [if_pos e2, rotLoop_get m f (i - j) j _ (by omega) (by omega) hj (by omega) (by rw [size_swapRange]; exact hsz) x]
    have g := fun y => swapRange_get d (m - i) m j (by omega) (by omega) y
    by_cases c1 : m - i ≤ x ∧ x < m - i + j
    ·rw [if_neg (by omega), if_neg (by omega), if_pos c1, g, if_pos c1]; congr 1; omega
    ·rw [if_neg c1]
     by_cases c2 : m - i + j ≤ x ∧ x < m + j
     ·rw [if_pos c2]
      by_cases c3 : x < m - i + j + j
      ·rw [if_pos (by omega), g, if_neg (by omega), if_pos (by omega)]; congr 1; omega
      ·rw [if_neg (by omega), if_pos (by omega), g, if_neg (by omega), if_neg (by omega)]
     ·rw [if_neg c2, if_neg (by omega), if_neg (by omega), g, if_neg (by omega), if_neg (by omega)]
   ·rw [if_neg e2, rotLoop_get m f i (j - i) _ (by omega) hi (by omega) him (by rw [size_swapRange]; omega) x]
    have g := fun y => swapRange_get d (m - i) (m + j - i) i (by omega) (by omega) y
    by_cases c1 : m - i ≤ x ∧ x < m - i + j
    ·rw [if_pos c1]
     by_cases c3 : x < m - i + (j - i)
     ·rw [if_pos (by omega), g, if_neg (by omega), if_neg (by omega)]
     ·rw [if_neg (by omega), if_pos (by omega), g, if_pos (by omega)]; congr 1; omega
    ·rw [if_neg c1]
     by_cases c2 : m - i + j ≤ x ∧ x < m + j
     ·rw [if_pos c2, if_neg (by omega), if_neg (by omega), g, if_neg (by omega), if_pos (by omega)]; congr 1; omega
     ·rw [if_neg c2, if_neg (by omega), if_neg (by omega), g, if_neg (by omega), if_neg (by omega)]
theorem rotate_get (d : Array α) (a m b : Nat) (h1 : a < m) (h2 : m < b) (h3 : b ≤ d.size) (x : Nat) :
  (rotate d a m b)[x]! = if a ≤ x ∧ x < a + (b - m) then d[x + (m - a)]! else if a + (b - m) ≤ x ∧ x < b then d[x - (b - m)]! else d[x]! := by
 unfold rotate
 rw [rotLoop_get m (b - a) (m - a) (b - m) d (by omega) (by omega) (by omega) (by omega) (by omega) x]
 have e1 : m - (m - a) = a := by omega
 have e2 : m + (b - m) = b := by omega
 rw [e1, e2]
theorem rotLoop_perm (lo hi m : Nat) : ∀ (f i j : Nat) (d : Array α), i ≤ m → lo ≤ m - i → m + j ≤ hi → hi ≤ d.size → PermIn lo hi d (rotLoop m f i j d)
 | 0, _, _, d, _, _, _, _ => permIn_refl d lo hi
 | f + 1, i, j, d, h1, h2, h3, h4 => by
  unfold rotLoop
  split
  ·rename_i e
   exact swapRange_perm lo hi _ _ _ d h2 (by omega) (by omega) (by omega) h4
  ·split
   ·exact permIn_trans _ _ _ _ _ (swapRange_perm lo hi _ _ _ d h2 (by omega) (by omega) (by omega) h4) (rotLoop_perm lo hi m f _ _ _ (by omega) (by omega) h3 (by rw [size_swapRange]; exact h4))
   ·exact permIn_trans _ _ _ _ _ (swapRange_perm lo hi _ _ _ d h2 (by omega) (by omega) (by omega) h4) (rotLoop_perm lo hi m f _ _ _ h1 h2 (by omega) (by rw [size_swapRange]; exact h4))
theorem rotate_perm (d : Array α) (lo hi a m b : Nat) (h0 : lo ≤ a) (h1 : a ≤ m) (h2 : m ≤ b) (h3 : b ≤ hi) (h4 : hi ≤ d.size) : PermIn lo hi d (rotate d a m b) :=
 rotLoop_perm lo hi m _ _ _ d (by omega) (by omega) (by omega) h4

theorem bs_spec (q : Nat → Bool) : ∀ (f i j : Nat), i ≤ j → j - i ≤ f →
  i ≤ bs q f i j ∧ bs q f i j ≤ j ∧ (bs q f i j = i ∨ q (bs q f i j - 1) = true) ∧ (bs q f i j = j ∨ q (bs q f i j) = false)
 | 0, i, j, h1, h2 => by
  have e : i = j := by omega
  subst e
  exact ⟨Nat.le_refl _, Nat.le_refl _, .inl rfl, .inl rfl⟩
 | f + 1, i, j, h1, h2 => by
  unfold bs
  by_cases c : i < j
  ·rw [if_pos c]
   by_cases hq : q ((i + j) / 2) = true
   ·rw [if_pos hq]
    obtain ⟨g1, g2, g3, g4⟩ := bs_spec q f ((i + j) / 2 + 1) j (by omega) (by omega)
    refine ⟨by omega, g2, ?_, g4⟩
    rcases g3 with g3 | g3
    ·right; rw [g3]; simpa using hq
    ·exact .inr g3
   ·rw [if_neg hq]
    obtain ⟨g1, g2, g3, g4⟩ := bs_spec q f i ((i + j) / 2) (by omega) (by omega)
    refine ⟨g1, by omega, g3, ?_⟩
    rcases g4 with g4 | g4
    ·right; rw [g4]; simpa using hq
    ·exact .inr g4
  ·rw [if_neg c]
   exact ⟨Nat.le_refl _, h1, .inl rfl, .inl (by omega)⟩

theorem bubUp_perm (lo hi : Nat) : ∀ (r k : Nat) (d : Array α), lo ≤ k → k + r < hi → hi ≤ d.size → PermIn lo hi d (bubUp r k d)
 | 0, _, d, _, _, _ => permIn_refl d lo hi
 | r + 1, k, d, h1, h2, h3 => by
  rw [bubUp]
  exact permIn_trans _ _ _ _ _ (swp_permIn d lo hi k (k + 1) h1 (by omega) (by omega) (by omega) h3) (bubUp_perm lo hi r (k + 1) _ (by omega) (by omega) (by rw [swp_size]; exact h3))
theorem bubDown_perm (lo hi : Nat) : ∀ (r k : Nat) (d : Array α), lo + r ≤ k → k < hi → hi ≤ d.size → PermIn lo hi d (bubDown r k d)
 | 0, _, d, _, _, _ => permIn_refl d lo hi
 | r + 1, k, d, h1, h2, h3 => by
  rw [bubDown]
  exact permIn_trans _ _ _ _ _ (swp_permIn d lo hi k (k - 1) (by omega) h2 (by omega) (by omega) h3) (bubDown_perm lo hi r (k - 1) _ (by omega) (by omega) (by rw [swp_size]; exact h3))
theorem bubUp_get : ∀ (r k : Nat) (d : Array α), k + r < d.size → ∀ x,
  (bubUp r k d)[x]! = if x = k + r then d[k]! else if k ≤ x ∧ x < k + r then d[x + 1]! else d[x]!
 | 0, k, d, h, x => by
  rw [bubUp]
  by_cases e : x = k
  ·rw [if_pos (by omega), e]
  ·rw [if_neg (by omega), if_neg (by omega)]
 | r + 1, k, d, h, x => by
  rw [bubUp, bubUp_get r (k + 1) _ (by rw [swp_size]; omega) x]
  have g := fun y => swp_get d (i := k) (j := k + 1) (by omega) (by omega) y
  by_cases c1 : x = k + (r + 1)
  ·rw [if_pos (by omega), if_pos c1, g, if_pos rfl]
  ·rw [if_neg (by omega), if_neg c1]
   by_cases c2 : k ≤ x ∧ x < k + (r + 1)
   ·rw [if_pos c2]
    by_cases c3 : x = k
    ·rw [if_neg (by omega), g, if_neg (by omega), if_pos c3, c3]
    ·rw [if_pos (by omega), g, if_neg (by omega), if_neg (by omega)]
   ·rw [if_neg c2, if_neg (by omega), g, if_neg (by omega), if_neg (by omega)]
theorem bubDown_get : ∀ (r k : Nat) (d : Array α), r ≤ k → k < d.size → ∀ x,
  (bubDown r k d)[x]! = if x = k - r then d[k]! else if k - r ≤ x ∧ x ≤ k then d[x - 1]! else d[x]!
 | 0, k, d, h1, h2, x => by
  rw [bubDown]
  by_cases e : x = k
  ·rw [if_pos (by omega), e]
  ·rw [if_neg (by omega), if_neg (by omega)]
 | r + 1, k, d, h1, h2, x => by
  rw [bubDown, bubDown_get r (k - 1) _ (by omega) (by rw [swp_size]; omega) x]
  have g := fun y => swp_get d (i := k) (j := k - 1) (by omega) (by omega) y
  by_cases c1 : x = k - (r + 1)
  ·rw [if_pos (by omega), if_pos c1, g, if_pos rfl]
  ·rw [if_neg (by omega), if_neg c1]
   by_cases c2 : k - (r + 1) ≤ x ∧ x ≤ k
   ·rw [if_pos c2]
    by_cases c3 : x = k
    ·rw [if_neg (by omega), g, if_neg (by omega), if_pos c3, c3]
    ·rw [if_pos (by omega), g, if_neg (by omega), if_neg (by omega)]
   ·rw [if_neg c2, if_neg (by omega), g, if_neg (by omega), if_neg (by omega)]

theorem sortedIn_congr {lt : α → α → Bool} {a b : Nat} {d d' : Array α} (hs : SortedIn lt a b d) (h : ∀ i, a ≤ i → i < b → d'[i]! = d[i]!) : SortedIn lt a b d' := fun i j hi hij hj => by
 rw [h i hi (by omega), h j (by omega) hj]; exact hs i j hi hij hj
theorem sortedIn_sub {lt : α → α → Bool} {a b a' b' : Nat} {d : Array α} (hs : SortedIn lt a b d) (h1 : a ≤ a') (h2 : b' ≤ b) : SortedIn lt a' b' d := fun i j hi hij hj => hs i j (by omega) hij (by omega)
theorem sorted_two {lt : α → α → Bool} {a m b : Nat} {d : Array α} (h1 : SortedIn lt a m d) (h2 : SortedIn lt m b d) (h3 : ∀ i j, a ≤ i → i < m → m ≤ j → j < b → lt d[j]! d[i]! = false) : SortedIn lt a b d := fun i j hi hij hj => by
 by_cases c1 : j < m
 ·exact h1 i j hi hij c1
 ·by_cases c2 : i < m
  ·exact h3 i j hi c2 (by omega) hj
  ·exact h2 i j (by omega) hij hj
theorem across_perm {p : α → α → Prop} {a m b : Nat} {d d' : Array α} (hb : b ≤ d.size) (ham : a ≤ m) (hmb : m ≤ b) (h : ∀ i j, a ≤ i → i < m → m ≤ j → j < b → p d[i]! d[j]!)
  (hL : PermIn a m d d') : ∀ i j, a ≤ i → i < m → m ≤ j → j < b → p d'[i]! d'[j]! := fun i j hi him hmj hj => by
 rw [hL.2.1 j (.inr hmj)]
 exact permIn_all d d' a m (fun x => p x d[j]!) (by omega) hL (fun i' h1 h2 => h i' j h1 h2 hmj hj) i hi him
theorem across_permR {p : α → α → Prop} {a m b : Nat} {d d' : Array α} (hb : b ≤ d.size) (ham : a ≤ m) (hmb : m ≤ b) (h : ∀ i j, a ≤ i → i < m → m ≤ j → j < b → p d[i]! d[j]!)
  (hR : PermIn m b d d') : ∀ i j, a ≤ i → i < m → m ≤ j → j < b → p d'[i]! d'[j]! := fun i j hi him hmj hj => by
 rw [hR.2.1 i (.inl him)]
 exact permIn_all d d' m b (fun x => p d[i]! x) hb hR (fun j' h1 h2 => h i j' hi him h1 h2) j hmj hj
end Go.Proofs.SymP
/- Plain law: symMerge of two sorted parts is a sorted permutation of both, under a strict weak order, with rounds enough. -/
namespace Go.Proofs.SymP
open Go.Sort
variable {α : Type} [Inhabited α]

theorem up_sorted {lt : α → α → Bool} (H : SWO lt) (d : Array α) (a b i : Nat) (hb : b ≤ d.size) (hi1 : a + 1 ≤ i) (hi2 : i ≤ b) (hs : SortedIn lt (a + 1) b d)
  (h1 : i = a + 1 ∨ lt d[i - 1]! d[a]! = true) (h2 : i = b ∨ lt d[i]! d[a]! = false) : SortedIn lt a b (bubUp (i - 1 - a) a d) := by
 have g := fun x => bubUp_get (i - 1 - a) a d (by omega) x
 have e : a + (i - 1 - a) = i - 1 := by omega
 rw [e] at g
 intro x y hx hxy hy
 rw [g x, g y]
 by_cases c1 : y < i - 1
 ·rw [if_neg (by omega), if_pos (by omega), if_neg (by omega), if_pos (by omega)]
  exact hs _ _ (by omega) (by omega) (by omega)
 ·by_cases c2 : y = i - 1
  ·rw [if_pos c2, if_neg (by omega), if_pos (by omega)]
   rcases h1 with h1 | h1
   ·omega
   ·cases hc : lt d[a]! d[x + 1]! with
    | false => rfl
    | true =>
     have ht := H.trans _ _ _ h1 hc
     by_cases c3 : x + 1 = i - 1
     ·rw [c3, H.irrefl] at ht; cases ht
     ·rw [hs (x + 1) (i - 1) (by omega) (by omega) (by omega)] at ht; cases ht
  ·rw [if_neg c2, if_neg (by omega)]
   by_cases c3 : x = i - 1
   ·rw [if_pos c3]
    rcases h2 with h2 | h2
    ·omega
    ·by_cases c4 : y = i
     ·rw [c4]; exact h2
     ·exact H.ntrans _ _ _ (hs i y (by omega) (by omega) hy) h2
   ·rw [if_neg c3]
    by_cases c4 : x < i - 1
    ·rw [if_pos (by omega)]
     exact hs _ _ (by omega) (by omega) hy
    ·rw [if_neg (by omega)]
     exact hs _ _ (by omega) hxy hy

theorem down_sorted {lt : α → α → Bool} (H : SWO lt) (d : Array α) (a m i : Nat) (hb : m < d.size) (hi1 : a ≤ i) (hi2 : i ≤ m) (hs : SortedIn lt a m d)
  (h1 : i = a ∨ lt d[m]! d[i - 1]! = false) (h2 : i = m ∨ lt d[m]! d[i]! = true) : SortedIn lt a (m + 1) (bubDown (m - i) m d) := by
 have g := fun x => bubDown_get (m - i) m d (by omega) hb x
 have e : m - (m - i) = i := by omega
 rw [e] at g
 intro x y hx hxy hy
 rw [g x, g y]
 by_cases c1 : y < i
 ·rw [if_neg (by omega), if_neg (by omega), if_neg (by omega), if_neg (by omega)]
  exact hs _ _ hx hxy (by omega)
 ·by_cases c2 : y = i
  ·rw [if_pos c2, if_neg (by omega), if_neg (by omega)]
   rcases h1 with h1 | h1
   ·omega
   ·by_cases c3 : x = i - 1
    ·rw [c3]; exact h1
    ·exact H.ntrans _ _ _ h1 (hs x (i - 1) hx (by omega) (by omega))
  ·rw [if_neg c2, if_pos (by omega)]
   by_cases c3 : x = i
   ·rw [if_pos c3]
    rcases h2 with h2 | h2
    ·omega
    ·cases hc : lt d[y - 1]! d[m]! with
     | false => rfl
     | true =>
      have ht := H.trans _ _ _ hc h2
      by_cases c4 : y - 1 = i
      ·rw [c4, H.irrefl] at ht; cases ht
      ·rw [hs i (y - 1) (by omega) (by omega) (by omega)] at ht; cases ht
   ·rw [if_neg c3]
    by_cases c4 : x < i
    ·rw [if_neg (by omega)]
     exact hs _ _ hx (by omega) (by omega)
    ·rw [if_pos (by omega)]
     exact hs _ _ (by omega) (by omega) (by omega)

theorem le_of_sorted {lt : α → α → Bool} (H : SWO lt) {a b : Nat} {d : Array α} (hs : SortedIn lt a b d) {i j : Nat} (h1 : a ≤ i) (h2 : i ≤ j) (h3 : j < b) : lt d[j]! d[i]! = false := by
 by_cases c : i = j
 ·rw [c]; exact H.irrefl _
 ·exact hs i j h1 (by omega) h3

theorem symMerge_ok {lt : α → α → Bool} (H : SWO lt) : ∀ (f : Nat) (d : Array α) (a m b : Nat), b - a ≤ f → a < m → m < b → b ≤ d.size → SortedIn lt a m d → SortedIn lt m b d →
  PermIn a b d (symMerge lt f d a m b) ∧ SortedIn lt a b (symMerge lt f d a m b)
 | 0, d, a, m, b, hf, h1, h2, _, _, _ => by omega
 | f + 1, d, a, m, b, hf, h1, h2, hb, hs1, hs2 => by
  unfold symMerge
  by_cases c1 : m - a = 1
  ·rw [if_pos c1]
   obtain rfl : m = a + 1 := by omega
   obtain ⟨g1, g2, g3, g4⟩ := bs_spec (fun h => lt d[h]! d[a]!) (b - (a + 1)) (a + 1) b (by omega) (by omega)
   exact ⟨bubUp_perm a b _ a d (Nat.le_refl _) (by omega) hb, up_sorted H d a b _ hb g1 g2 hs2 g3 g4⟩
  ·rw [if_neg c1]
   by_cases c2 : b - m = 1
   ·rw [if_pos c2]
    obtain rfl : b = m + 1 := by omega
    obtain ⟨g1, g2, g3, g4⟩ := bs_spec (fun h => !lt d[m]! d[h]!) (m - a) a m (by omega) (by omega)
    refine ⟨bubDown_perm a (m + 1) _ m d (by omega) (by omega) hb, down_sorted H d a m _ (by omega) g1 g2 hs1 ?_ ?_⟩
    ·rcases g3 with g3 | g3
     ·exact .inl g3
     ·right; simpa using g3
    ·rcases g4 with g4 | g4
     ·exact .inl g4
     ·right; simpa using g4
   ·rw [if_neg c2]
    dsimp only
    generalize hmid : (a + b) / 2 = mid
    generalize hs0 : (if mid < m then mid + m - b else a) = s0
    generalize hr0 : (if mid < m then mid else m) = r0
    have hb0 : a ≤ s0 ∧ s0 ≤ r0 ∧ r0 ≤ mid ∧ r0 ≤ m := by
     rw [← hs0, ← hr0]
     split <;> omega
    obtain ⟨g1, g2, g3, g4⟩ := bs_spec (fun c => !lt d[mid + m - 1 - c]! d[c]!) (r0 - s0) s0 r0 (by omega) (by omega)
    generalize bs (fun c => !lt d[mid + m - 1 - c]! d[c]!) (r0 - s0) s0 r0 = st at g1 g2 g3 g4 ⊢
    have he1 : m ≤ mid + m - st := by omega
    have he2 : mid + m - st ≤ b := by
     by_cases c : mid < m
     ·rw [if_pos c] at hs0; omega
     ·rw [if_neg c] at hs0; omega
    have hA : st = a ∨ mid + m - st = b ∨ lt d[mid + m - st]! d[st - 1]! = false := by
     have hfirst : st = s0 → st = a ∨ mid + m - st = b ∨ lt d[mid + m - st]! d[st - 1]! = false := by
      intro g3
      by_cases c : mid < m
      ·rw [if_pos c] at hs0; right; left; omega
      ·rw [if_neg c] at hs0; left; omega
     rcases g3 with g3 | g3
     ·exact hfirst g3
     ·by_cases c : st = 0
      ·exact hfirst (by omega)
      ·right; right
       have e : mid + m - 1 - (st - 1) = mid + m - st := by omega
       simp only [e] at g3
       simpa using g3
    have hB : st = m ∨ mid + m - st = m ∨ lt d[mid + m - st - 1]! d[st]! = true := by
     rcases g4 with g4 | g4
     ·by_cases c : mid < m
      ·rw [if_pos c] at hr0; right; left; omega
      ·rw [if_neg c] at hr0; left; omega
     ·right; right
      have e : mid + m - 1 - st = mid + m - st - 1 := by omega
      simp only [e] at g4
      simpa using g4
    generalize he : mid + m - st = e at he1 he2 hA hB ⊢
    -- the rotated array, place by place
    have hd1 : ∃ d1, (if st < m ∧ m < e then rotate d st m e else d) = d1 ∧ PermIn a b d d1 ∧ ∀ x, d1[x]! = if st ≤ x ∧ x < mid then d[x + (m - st)]! else if mid ≤ x ∧ x < e then d[x - (e - m)]! else d[x]! := by
     refine ⟨_, rfl, ?_, ?_⟩
     ·split
      ·exact rotate_perm d a b st m e (by omega) (by omega) (by omega) he2 hb
      ·exact permIn_refl d a b
     ·intro x
      split
      ·rename_i c
       rw [rotate_get d st m e c.1 c.2 (by omega) x]
       have e1 : st + (e - m) = mid := by omega
       rw [e1]
      ·rename_i c
       by_cases c3 : st ≤ x ∧ x < mid
       ·rw [if_pos c3]
        have : m - st = 0 := by omega
        rw [this]; rfl
       ·rw [if_neg c3]
        by_cases c4 : mid ≤ x ∧ x < e
        ·rw [if_pos c4]
         have : e - m = 0 := by omega
         rw [this]; rfl
        ·rw [if_neg c4]
    obtain ⟨d1, ed1, hp1, hg⟩ := hd1
    rw [ed1]
    clear ed1
    have hsz1 : d1.size = d.size := hp1.1
    have L1 : SortedIn lt a st d1 := sortedIn_congr (sortedIn_sub hs1 (Nat.le_refl _) (by omega)) (fun i hi1 hi2 => by rw [hg, if_neg (by omega), if_neg (by omega)])
    have L2 : SortedIn lt st mid d1 := fun x y hx hxy hy => by
     rw [hg x, hg y, if_pos (by omega), if_pos (by omega)]
     exact hs2 _ _ (by omega) (by omega) (by omega)
    have R1 : SortedIn lt mid e d1 := fun x y hx hxy hy => by
     rw [hg x, hg y, if_neg (by omega), if_pos (by omega), if_neg (by omega), if_pos (by omega)]
     exact hs1 _ _ (by omega) (by omega) (by omega)
    have R2 : SortedIn lt e b d1 := sortedIn_congr (sortedIn_sub hs2 (by omega) (Nat.le_refl _)) (fun i hi1 hi2 => by rw [hg, if_neg (by omega), if_neg (by omega)])
    have AC : ∀ i j, a ≤ i → i < mid → mid ≤ j → j < b → lt d1[j]! d1[i]! = false := by
     intro i j hi him hmj hj
     rw [hg i, hg j, if_neg (by omega : ¬ (st ≤ j ∧ j < mid))]
     by_cases ci : st ≤ i
     ·rw [if_pos (⟨ci, him⟩ : st ≤ i ∧ i < mid)]
      by_cases cj : j < e
      ·rw [if_pos (⟨hmj, cj⟩ : mid ≤ j ∧ j < e)]
       -- B, C
       rcases hB with hB | hB | hB
       ·omega
       ·omega
       ·cases hc : lt d[j - (e - m)]! d[i + (m - st)]! with
        | false => rfl
        | true =>
         have k1 : lt d[j - (e - m)]! d[st]! = false := le_of_sorted H hs1 (by omega) (by omega) (by omega)
         have k2 : lt d[e - 1]! d[i + (m - st)]! = false := le_of_sorted H hs2 (by omega) (by omega) (by omega)
         cases hk : lt d[e - 1]! d[j - (e - m)]! with
         | false =>
          have := H.ntrans _ _ _ hk k1
          rw [hB] at this; cases this
         | true =>
          have := H.trans _ _ _ hk hc
          rw [k2] at this; cases this
      ·rw [if_neg (by omega : ¬ (mid ≤ j ∧ j < e))]
       exact le_of_sorted H hs2 (by omega) (by omega) hj
     ·rw [if_neg (by omega : ¬ (st ≤ i ∧ i < mid)), if_neg (by omega : ¬ (mid ≤ i ∧ i < e))]
      by_cases cj : j < e
      ·rw [if_pos (⟨hmj, cj⟩ : mid ≤ j ∧ j < e)]
       exact le_of_sorted H hs1 hi (by omega) (by omega)
      ·rw [if_neg (by omega : ¬ (mid ≤ j ∧ j < e))]
       rcases hA with hA | hA | hA
       ·omega
       ·omega
       ·exact H.ntrans _ _ _ (le_of_sorted H hs2 (by omega) (by omega) hj) (H.ntrans _ _ _ hA (le_of_sorted H hs1 hi (by omega) (by omega)))
    -- the left part
    have hd2 : ∃ d2, (if a < st ∧ st < mid then symMerge lt f d1 a st mid else d1) = d2 ∧ PermIn a mid d1 d2 ∧ SortedIn lt a mid d2 := by
     refine ⟨_, rfl, ?_⟩
     split
     ·rename_i c
      exact symMerge_ok H f d1 a st mid (by omega) c.1 c.2 (by omega) L1 L2
     ·rename_i c
      refine ⟨permIn_refl d1 a mid, ?_⟩
      by_cases c3 : st = a
      ·rw [c3] at L2; exact L2
      ·have : st = mid := by omega
       rw [this] at L1; exact L1
    obtain ⟨d2, ed2, hp2, hs2'⟩ := hd2
    rw [ed2]
    clear ed2
    have hsz2 : d2.size = d.size := hp2.1.trans hsz1
    have out2 : ∀ i, mid ≤ i → d2[i]! = d1[i]! := fun i hi => hp2.2.1 i (.inr hi)
    have hd3 : ∃ d3, (if mid < e ∧ e < b then symMerge lt f d2 mid e b else d2) = d3 ∧ PermIn mid b d2 d3 ∧ SortedIn lt mid b d3 := by
     have R1' : SortedIn lt mid e d2 := sortedIn_congr R1 (fun i h1 _ => out2 i h1)
     have R2' : SortedIn lt e b d2 := sortedIn_congr R2 (fun i h1 _ => out2 i (by omega))
     refine ⟨_, rfl, ?_⟩
     split
     ·rename_i c
      exact symMerge_ok H f d2 mid e b (by omega) c.1 c.2 (by omega) R1' R2'
     ·rename_i c
      refine ⟨permIn_refl d2 mid b, ?_⟩
      by_cases c3 : e = mid
      ·rw [c3] at R2'; exact R2'
      ·have : e = b := by omega
       rw [this] at R1'; exact R1'
    obtain ⟨d3, ed3, hp3, hs3⟩ := hd3
    rw [ed3]
    refine ⟨permIn_trans _ _ _ _ _ hp1 (permIn_trans _ _ _ _ _ (permIn_mono d1 d2 a mid a b (Nat.le_refl _) (by omega) (by omega) hp2) (permIn_mono d2 d3 mid b a b (by omega) (Nat.le_refl _) (by omega) hp3)), ?_⟩
    refine sorted_two (m := mid) (sortedIn_congr hs2' (fun i _ h2 => hp3.2.1 i (.inl h2))) hs3 ?_
    have A1 := across_perm (p := fun x y => lt y x = false) (d := d1) (d' := d2) (by omega) (by omega) (by omega) AC hp2
    exact across_permR (p := fun x y => lt y x = false) (d := d2) (d' := d3) (by omega) (by omega) (by omega) A1 hp3
#print axioms symMerge_ok
end Go.Proofs.SymP
/- The walk of slices.SortStableFunc's family at []api.Bind: swapRangeCmpFunc and rotateCmpFunc; what is asked: the comparing function's contract (it may lay blocks), how the row lies. -/
namespace Go.Proofs.YtghommaokdhjmaaGreat.SortB
open Go.Shelf Go.RowKit Go.Lib Go.Sort Go.Proofs.SymP
variable {P : Program} {α : Type} [Inhabited α]
structure Lays (P : Program) : Prop where
 mixed : P.follows .mixedOrders = true
 t0 : P.underlying 0 = some (TypeDesc.tuple #[])
 a0 : ∀ w, (isAgg 0).run P w = .ok false w
 z0 : ∀ w, (Go.sizeOf 0).run P w = .ok 1 w
 v0 : ∀ w, (zeroValue 0).run P w = .ok (Value.tuple #[]) w
 tI : P.underlying 3 = some (TypeDesc.int IntKind.i64)
 aI : ∀ w, (isAgg 3).run P w = .ok false w
 zI : ∀ w, (Go.sizeOf 3).run P w = .ok 1 w
 vI : ∀ w, (zeroValue 3).run P w = .ok (Value.int IntKind.i64 0) w
 tB : P.underlying 4 = some (TypeDesc.bool)
 aB : ∀ w, (isAgg 4).run P w = .ok false w
 zB : ∀ w, (Go.sizeOf 4).run P w = .ok 1 w
 vB : ∀ w, (zeroValue 4).run P w = .ok (Value.bool false) w
 tS : P.underlying 29 = some (TypeDesc.slice 66)
 aS : ∀ w, (isAgg 29).run P w = .ok false w
 zS : ∀ w, (Go.sizeOf 29).run P w = .ok 1 w
 vS : ∀ w, (zeroValue 29).run P w = .ok (Value.slice none 0 0) w
 tF : P.underlying 128 = some (TypeDesc.func #[66, 66] #[3] false)
 aF : ∀ w, (isAgg 128).run P w = .ok false w
 zF : ∀ w, (Go.sizeOf 128).run P w = .ok 1 w
 vF : ∀ w, (zeroValue 128).run P w = .ok (Value.nilFunc) w
 tU : P.underlying 50 = some (TypeDesc.int IntKind.u64)
 aU : ∀ w, (isAgg 50).run P w = .ok false w
 zU : ∀ w, (Go.sizeOf 50).run P w = .ok 1 w
 vU : ∀ w, (zeroValue 50).run P w = .ok (Value.int IntKind.u64 0) w
 Fsr : P.funcs[160]? = some Tryz.f160
 Fro : P.funcs[158]? = some Tryz.f158
 Fsm : P.funcs[149]? = some Tryz.f149
 Fst : P.funcs[131]? = some Tryz.f131
 Fss : P.funcs[115]? = some Tryz.f115
theorem lays : Lays Tryz.prog := by
 constructor <;> first | kernel_rfl | (intro w; kernel_rfl)
end Go.Proofs.YtghommaokdhjmaaGreat.SortB
/- Plain law: the blocks of slices.stableCmpFunc: sorted blocks of s merge to sorted blocks of 2s; one block is the whole. -/
namespace Go.Proofs.SymP
open Go.Sort
variable {α : Type} [Inhabited α] {lt : α → α → Bool}

def BS (lt : α → α → Bool) (s n : Nat) (d : Array α) : Prop := ∀ x, s ∣ x → SortedIn lt x (min (x + s) n) d
def Fst (lt : α → α → Bool) (a : Nat) (d : Array α) : Prop := ∀ x, 20 ∣ x → x < a → SortedIn lt x (x + 20) d
theorem sortedIn_empty {a b : Nat} {d : Array α} (h : b ≤ a) : SortedIn lt a b d := fun i j h1 h2 h3 => by omega
theorem permIn_wide {d d' : Array α} {a b n : Nat} (h : PermIn a b d d') (hb : b ≤ n) (hn : n ≤ d.size) : PermIn 0 n d d' := permIn_mono d d' a b 0 n (Nat.zero_le _) hb hn h
theorem gap {s x a : Nat} (h1 : s ∣ a) (h2 : s ∣ x) (h : a < x) : a + s ≤ x := by
 have h3 : s ∣ x - a := Nat.dvd_sub h2 h1
 have := Nat.le_of_dvd (by omega) h3
 omega

theorem fst_step (H : SWO lt) {n a : Nat} {d : Array α} (hF : Fst lt a d) (h20 : 20 ∣ a) (h1 : a + 20 ≤ n) (hn : n ≤ d.size) :
  PermIn 0 n d (insertionSort lt d a (a + 20)) ∧ Fst lt (a + 20) (insertionSort lt d a (a + 20)) := by
 obtain ⟨hp, hs⟩ := insertionSort_holds (lt := lt) H d a (a + 20) (by omega) (by omega)
 refine ⟨permIn_wide hp h1 hn, fun x hx hxa => ?_⟩
 by_cases e : x = a
 ·rw [e]; exact hs
 ·have hlt : x < a := by
   rcases Nat.lt_or_ge x a with h | h
   ·exact h
   ·have := gap h20 hx (by omega)
    omega
  have h5 := gap hx h20 hlt
  exact sortedIn_congr (hF x hx hlt) (fun i _ h2 => hp.2.1 i (.inl (by omega)))
theorem fst_last (H : SWO lt) {n a : Nat} {d : Array α} (hF : Fst lt a d) (h20 : 20 ∣ a) (h1 : a ≤ n) (h2 : n < a + 20) (hn : n ≤ d.size) :
  PermIn 0 n d (insertionSort lt d a n) ∧ BS lt 20 n (insertionSort lt d a n) := by
 obtain ⟨hp, hs⟩ := insertionSort_holds (lt := lt) H d a n h1 hn
 refine ⟨permIn_wide hp (Nat.le_refl _) hn, fun x hx => ?_⟩
 rcases Nat.lt_trichotomy x a with h | h | h
 ·have h5 := gap hx h20 h
  exact sortedIn_sub (sortedIn_congr (hF x hx h) (fun i _ h2 => hp.2.1 i (.inl (by omega)))) (Nat.le_refl _) (by omega)
 ·rw [h, Nat.min_eq_right (by omega)]; exact hs
 ·have := gap h20 hx h
  exact sortedIn_empty (by omega)
theorem bs_all {s n : Nat} {d : Array α} (h : BS lt s n d) (hs : n ≤ s) : SortedIn lt 0 n d := by
 have := h 0 (Nat.dvd_zero _)
 rwa [Nat.zero_add, Nat.min_eq_right hs] at this
end Go.Proofs.SymP
/- The walk of slices.SortStableFunc's family at []api.Bind: stableCmpFunc and SortStableFunc; what is asked: the comparing function's contract (it may lay blocks), how the row lies. -/
namespace Go.Proofs.YtghommaokdhjmaaGreat.SortB
open Go.Shelf Go.RowKit Go.Lib Go.Sort Go.Proofs.SymP
variable {P : Program} {α : Type} [Inhabited α]
def ren : Ren := ⟨fun x => if x = 20 then 148 else x, fun x => if x = 24 then 66 else if x = 22 then 29 else if x = 25 then 128 else if x = 3 then 3 else if x = 4 then 4 else x, fun x => x⟩
set_option maxRecDepth 1000000 in
theorem laysI : SlLaysF0.n20 Tryz.prog ren := by
 refine ⟨by kernel_rfl, ⟨ "slices.insertionSortCmpFunc[constable/api.Bind]", by decide, by kernel_rfl⟩, ?_, ?_, ?_, ?_, ?_, ?_, ?_, ?_, ?_, ?_, ?_, ?_, ?_, ?_, ?_, ?_, ?_, ?_, ?_, ?_⟩ <;> first | kernel_rfl | (intro w; kernel_rfl)

theorem insertionSortCmpFunc (LI : SlLaysF0.n20 P ren) (k : Nat) (aE : ∀ w, (isAgg 66).run P w = .ok true w) (zE : ∀ w, (Go.sizeOf 66).run P w = .ok k w) (enc : α → List Value) (cf : α → α → Int) (g : Nat) (cb : Array Value) (blk off sz : Nat) (w0 : World) (eg : ∀ args w, (callFunc g args).run P w = .ok (.enter g args) w) (hcmp : CmpLays P g cb enc k cf blk off sz w0) (cap a b : Nat) (az bz : Int) (haz : az = a) (hbz : bz = b) (d0 d : Array α) (w : World)
  (R : RowK enc k w0 blk off d0) (hs : d0.size = sz) (hd : d.size = sz) (S : SWK enc k w0 blk off d w) (hO : SWO (ltOf cf)) (hab : a ≤ b) (hb : b ≤ sz) (hsz : sz < 4611686018427387904) :
  Calls P 148 #[.slice (some ⟨blk, off, none⟩) sz cap, .int .i64 az, .int .i64 bz, .func (.func g) #[] cb] w fun e w' => e = .returned (.tuple #[]) ∧ SWK enc k w0 blk off (Go.Sort.insertionSort (ltOf cf) d a b) w' := by
 subst haz hbz hd
 have hs' : (Go.Sort.insertionSort (ltOf cf) d a b).size = d.size := (insertionSort_holds hO d a b hab hb).1.1
 have hC : CmpLays P g cb enc k cf blk off d.size w := fun m os dk hdk x y => by
  obtain ⟨n0, os0, rfl⟩ := S
  rw [sortWorldK_on enc k w0 blk off n0 m d dk os0 os R.hblk hdk]
  exact hcmp _ _ dk (by omega) x y
 refine (AnyQ.insertionSortCmpFunc (ρ := ren) LI k aE zE enc R.hk R.h1 cf g cb blk off cap a b d w eg hC (S.holds R.hblk R.hH hs.symm) (S.lt R.hblk) hab hb hsz).mono ?_
 rintro e w' ⟨rfl, n, os, rfl⟩
 exact ⟨rfl, S.on R.hblk n _ os hs'⟩
def Mid (n : Nat) (d dk : Array α) (q : Prop) : Prop := PermIn 0 n d dk ∧ dk.size = n ∧ q
theorem Mid.go {n : Nat} {d dk dk2 : Array α} {q r : Prop} (h : Mid n d dk q) (hp : PermIn 0 n dk dk2 ∧ r) : Mid n d dk2 r := ⟨permIn_trans _ _ _ _ _ h.1 hp.1, hp.1.1.trans h.2.1, hp.2⟩
theorem Mid.to {n : Nat} {d dk : Array α} {q r : Prop} (h : Mid n d dk q) (hr : r) : Mid n d dk r := ⟨h.1, h.2.1, hr⟩

set_option maxHeartbeats 16000000 in
set_option maxRecDepth 1000000 in
theorem stableCmpFunc (LI : SlLaysF0.n20 P ren) (L : Lays P) (k : Nat) (aE : ∀ w, (isAgg 66).run P w = .ok true w) (zE : ∀ w, (Go.sizeOf 66).run P w = .ok k w) (enc : α → List Value) (cf : α → α → Int) (g : Nat) (cb : Array Value) (blk off sz : Nat) (w0 : World) (eg : ∀ args w, (callFunc g args).run P w = .ok (.enter g args) w) (hcmp : CmpLays P g cb enc k cf blk off sz w0)
  (cap : Nat) (nz : Int) (hnz : nz = sz) (d0 d : Array α) (w : World)
  (R : RowK enc k w0 blk off d0) (hs : d0.size = sz) (hd : d.size = sz) (S : SWK enc k w0 blk off d w) (hO : SWO (ltOf cf)) (hsz : sz ≤ 20) :
  Calls P 131 #[.slice (some ⟨blk, off, none⟩) sz cap, .int .i64 nz, .func (.func g) #[] cb] w fun e w' => e = .returned (.tuple #[]) ∧ ∃ d', SWK enc k w0 blk off d' w' ∧ PermIn 0 sz d d' ∧ SortedIn (ltOf cf) 0 sz d' := by
 subst hnz
 have mixed := L.mixed; have t0 := L.t0; have a0 := L.a0; have z0 := L.z0; have v0 := L.v0; have tI := L.tI; have aI := L.aI; have zI := L.zI; have vI := L.vI; have tB := L.tB; have aB := L.aB; have zB := L.zB; have vB := L.vB; have tS := L.tS; have aS := L.aS; have zS := L.zS; have vS := L.vS; have tF := L.tF; have aF := L.aF; have zF := L.zF; have vF := L.vF; have tU := L.tU; have aU := L.aU; have zU := L.zU; have vU := L.vU
 have FG := L.Fst
 have HC : Aside _ := hcmp
 clear hcmp
 have S0 : Aside (SWK enc k w0 blk off d w) := S
 clear S
 have ei : ∀ args w, (callFunc 148 args).run P w = .ok (.enter 148 args) w := LI.f20.enters rfl
 go_enter FG, Tryz.ntmps131
 go_wp2
 go_loopg [7, 8] sz (fun kx s7 s8 wr => ∃ (a q : Nat) (dk : Array α), s7 = .int .i64 a ∧ s8 = .int .i64 ((a : Int) + 20) ∧ a ≤ sz ∧ sz - a ≤ q ∧ q ≤ kx ∧ 20 ∣ a ∧ Aside (SWK enc k w0 blk off dk wr) ∧ Hid (Mid sz d dk (Fst (ltOf cf) a dk)))
 case atStart => exact ⟨0, sz, d, rfl, rfl, Nat.zero_le _, by omega, Nat.le_refl _, Nat.dvd_zero _, S0, ⟨permIn_refl _ _ _, hd, fun x _ h => absurd h (Nat.not_lt_zero _)⟩⟩
 case round =>
  clear S0
  obtain ⟨a, q, dk, rfl, rfl, hal, hq, hkx, h20, S1, HM⟩ := hrel
  by_cases hb : a + 20 ≤ sz
  ·have hbz : (a : Int) + 20 ≤ (sz : Int) := by omega
   go_wp2_with (go_at_fn 148; refine (insertionSortCmpFunc LI k aE zE enc cf g cb blk off sz w0 eg HC.out cap (a) (a + 20) _ _ (by omega) (by omega) d0 dk _ R hs HM.out.2.1 S1.out hO (by omega) (by omega) (by omega)).mono ?_; rintro e w2 ⟨rfl, hS2⟩; have S2 : Aside _ := hS2; clear hS2 S1)
   go_roundg (q - 20)
   case measure => omega
   case rel => exact ⟨a + 20, q - 20, _, by go_num, by go_num, hb, by omega, Nat.le_refl _, Nat.dvd_add h20 (Nat.dvd_refl _), S2, HM.out.go (fst_step hO HM.out.2.2 h20 hb (Nat.le_of_eq HM.out.2.1.symm))⟩
  ·have hbz : ¬ (a : Int) + 20 ≤ (sz : Int) := by omega
   go_wp2_with (go_at_fn 148; refine (insertionSortCmpFunc LI k aE zE enc cf g cb blk off sz w0 eg HC.out cap (a) (sz) _ _ (by omega) (by omega) d0 dk _ R hs HM.out.2.1 S1.out hO (by omega) (by omega) (by omega)).mono ?_; rintro e w2 ⟨rfl, hS2⟩; have S2 : Aside _ := hS2; clear hS2 S1)
   have HM2 : Hid (Mid sz d (Go.Sort.insertionSort (ltOf cf) dk a sz) (BS (ltOf cf) 20 sz (Go.Sort.insertionSort (ltOf cf) dk a sz))) := HM.out.go (fst_last hO HM.out.2.2 h20 hal (by omega) (Nat.le_of_eq HM.out.2.1.symm))
   clear HM
   generalize Go.Sort.insertionSort (ltOf cf) dk a sz = d1 at S2 HM2
   clear hbz hb h20 hkx hq hal
   go_loopg [6] sz (fun kx s6 wr => ∃ (s q : Nat) (dk : Array α), s6 = .int .i64 s ∧ 20 ≤ s ∧ sz - s ≤ q ∧ q ≤ kx ∧ Aside (SWK enc k w0 blk off dk wr) ∧ Hid (Mid sz d dk (BS (ltOf cf) s sz dk)))
   case atStart => exact ⟨20, sz, d1, rfl, Nat.le_refl _, by omega, Nat.le_refl _, S2, HM2⟩
   case round =>
    clear S2 HM2
    obtain ⟨s, q, dk, rfl, hs1, hq, hkx, S1, HM⟩ := hrel
    by_cases hb : s < sz
    ·exact absurd hb (by omega)
    ·have hbz : ¬ (s : Int) < (sz : Int) := by omega
     go_wp2
     go_end0
     exact ⟨rfl, dk, S1.out, HM.out.1, bs_all HM.out.2.2 (by omega)⟩

set_option maxHeartbeats 4000000 in
set_option maxRecDepth 1000000 in
theorem sortStableFunc (LI : SlLaysF0.n20 P ren) (L : Lays P) (k : Nat) (aE : ∀ w, (isAgg 66).run P w = .ok true w) (zE : ∀ w, (Go.sizeOf 66).run P w = .ok k w) (enc : α → List Value) (cf : α → α → Int) (g : Nat) (cb : Array Value) (blk off sz : Nat) (w0 : World) (eg : ∀ args w, (callFunc g args).run P w = .ok (.enter g args) w) (hcmp : CmpLays P g cb enc k cf blk off sz w0)
  (cap : Nat) (d0 d : Array α) (w : World)
  (R : RowK enc k w0 blk off d0) (hs : d0.size = sz) (hd : d.size = sz) (S : SWK enc k w0 blk off d w) (hO : SWO (ltOf cf)) (hsz : sz ≤ 20) :
  Calls P 115 #[.slice (some ⟨blk, off, none⟩) sz cap, .func (.func g) #[] cb] w fun e w' => e = .returned (.tuple #[]) ∧ ∃ d', SWK enc k w0 blk off d' w' ∧ PermIn 0 sz d d' ∧ SortedIn (ltOf cf) 0 sz d' := by
 have mixed := L.mixed; have t0 := L.t0; have a0 := L.a0; have z0 := L.z0; have v0 := L.v0; have tI := L.tI; have aI := L.aI; have zI := L.zI; have vI := L.vI; have tB := L.tB; have aB := L.aB; have zB := L.zB; have vB := L.vB; have tS := L.tS; have aS := L.aS; have zS := L.zS; have vS := L.vS; have tF := L.tF; have aF := L.aF; have zF := L.zF; have vF := L.vF; have tU := L.tU; have aU := L.aU; have zU := L.zU; have vU := L.vU
 have FG := L.Fss
 have HC : Aside _ := hcmp
 clear hcmp
 have S0 : Aside (SWK enc k w0 blk off d w) := S
 clear S
 have ei : ∀ args w, (callFunc 131 args).run P w = .ok (.enter 131 args) w := enters_of L.Fst (by kernel_rfl) rfl
 go_enter FG, Tryz.ntmps115
 go_wp2_with (go_at_fn 131; refine (stableCmpFunc LI L k aE zE enc cf g cb blk off sz w0 eg HC.out cap _ rfl d0 d _ R hs hd S0.out hO hsz).mono ?_; rintro e w2 ⟨rfl, hS2⟩; have S2 : Aside _ := hS2; clear hS2)
 go_end0
 exact ⟨rfl, S2.out⟩
#print axioms sortStableFunc
end Go.Proofs.YtghommaokdhjmaaGreat.SortB
/- Rows of elements of k cells: one element put, a run of them put, a tail cleared; from a block's cells to the row's words and back. -/
namespace Go.Proofs.SymP
open Go.Shelf Go.RowKit Go.Lib Go.Sort
variable {P : Program} {α : Type} [Inhabited α] {enc : α → List Value} {k : Nat} {w0 W : World} {blk off : Nat} {dk : Array α}

theorem setMany_set (enc : α → List Value) (k : Nat) (hk : ∀ x, (enc x).length = k) (d : Array α) (i : Nat) (hi : i < d.size) (y : α) :
  setMany (flatK enc k d) (i * k) (enc y) = flatK enc k (d.setIfInBounds i y) := by
 refine ext_get! (by simp) fun t ht => ?_
 have ht' : t < d.size * k := by simpa using ht
 have k0 : 0 < k := by
  rcases Nat.eq_zero_or_pos k with h | h
  ·subst h; simp at ht'
  ·exact h
 rw [get_setMany _ _ _ t (by simpa using ht'), get_flatK _ _ _ t ht', get_flatK _ _ _ t (by simpa using ht'), hk]
 have m : ∀ q, t / k = q → t - q * k = t % k := fun q h => by subst h; rw [Nat.mod_eq_sub_div_mul]
 by_cases a : t / k = i
 ·rw [if_pos ((blk_iff k i t k0).2 a), m i a, a, getElem!_set_same d i y hi]
 ·rw [if_neg (fun h => a ((blk_iff k i t k0).1 h)), getElem!_set_other d i _ y a]

theorem swk_set (h : SWK enc k w0 blk off dk W) (hk : ∀ x, (enc x).length = k) (hblk : blk < w0.heap.size) (i : Nat) (hi : i < dk.size) (y : α) :
  SWK enc k w0 blk off (dk.setIfInBounds i y) (W.setCells blk (off + i * k) (enc y)) := by
 obtain ⟨n, os, rfl⟩ := h
 refine ⟨n, os, ?_⟩
 unfold sortWorldK
 rw [setCells_grow _ _ _ _ _ (by rw [size_putRowK]; exact hblk)]
 congr 1
 unfold putRowK
 have b : i * k + k ≤ dk.size * k := by
  have := Nat.mul_le_mul_right k (show i + 1 ≤ dk.size from hi); rwa [Nat.add_mul, Nat.one_mul] at this
 rw [setCells_putRow _ _ _ _ _ _ (by rw [hk, size_flatK]; exact b), setMany_set enc k hk dk i hi]

theorem setCells_append (b : Nat) : ∀ (xs ys : List Value) (o : Nat) (w : World), w.setCells b o (xs ++ ys) = (w.setCells b o xs).setCells b (o + xs.length) ys
 | [], ys, o, w => rfl
 | x :: xs, ys, o, w => by
  rw [List.cons_append, World.setCells, World.setCells, setCells_append b xs ys, List.length_cons, Nat.add_assoc, Nat.add_comm 1]

theorem swk_fill (hk : ∀ x, (enc x).length = k) (hblk : blk < w0.heap.size) : ∀ (xs : List α) (dk : Array α) (W : World) (i : Nat), SWK enc k w0 blk off dk W → i + xs.length ≤ dk.size →
  SWK enc k w0 blk off (lay dk i xs) (W.setCells blk (off + i * k) (xs.flatMap enc))
 | [], dk, W, i, h, _ => h
 | x :: xs, dk, W, i, h, hi => by
  have hi' : i + (xs.length + 1) ≤ dk.size := by simpa using hi
  rw [List.flatMap_cons, setCells_append, hk, lay, Nat.add_assoc, show i * k + k = (i + 1) * k by rw [Nat.add_mul, Nat.one_mul]]
  exact swk_fill hk hblk xs _ _ (i + 1) (swk_set h hk hblk i (by omega) x) (by simp; omega)

theorem zeroCells_list (c : Array Value) (n : Nat) : (Builtin.zeroCells c n).toList = (List.replicate n c.toList).flatten := by
 unfold Builtin.zeroCells
 rw [Array.toList_map, Array.toList_range]
 induction n with
 | zero => simp
 | succ n ih =>
  rw [Nat.add_mul, Nat.one_mul, List.range_add, List.map_append, ih, List.replicate_succ', List.flatten_append]
  congr 1
  rw [List.map_map]
  apply List.ext_getElem
  ·simp
  ·intro i h1 h2
   have hi : i < c.size := by simpa using h1
   simp [Nat.mod_eq_of_lt hi, hi]

theorem run_clear_k (w : World) (t e ty : TypeId) (z : Value) (cs : List Value) (ht : P.underlying t = some (.slice e)) (hv : ∀ w, (zeroValue e).run P w = .ok z w) (hz : z.cells.toList = cs) (h1 : ∀ v ∈ cs, v.oneCell' = true) (b o n c : Nat) (hn : 0 < n)
  (hc : ∀ j, j < n * cs.length → (w.cell? ⟨b, o + j, none⟩).isSome = true) (hf : ∀ j, j < n * cs.length → w.frozen? ⟨b, o + j, none⟩ = false) :
  (Builtin.clear_ #[t] ty #[.slice (some ⟨b, o, none⟩) n c]).run P w = .ok (.tuple #[]) (w.setCells b o (List.replicate n cs).flatten) := by
 have hl : (List.replicate n cs).flatten.length = n * cs.length := by simp
 have hzc : (Builtin.zeroCells z.cells n).toList = (List.replicate n cs).flatten := by rw [zeroCells_list, hz]
 have hst := run_storeCells_cells (P := P) b o (List.replicate n cs).flatten 0 w (by rw [hl]; simpa using hc) (by rw [hl]; simpa using hf) (by
  intro v hv'
  obtain ⟨l, h2, h3⟩ := List.mem_flatten.1 hv'
  rw [List.eq_of_mem_replicate h2] at h3
  exact h1 v h3)
 simp only [Nat.add_zero] at hst
 obtain ⟨m, rfl⟩ : ∃ m, n = m + 1 := ⟨n - 1, by omega⟩
 simp [Builtin.clear_, run_underlying ht, hv, hzc, hst]

theorem replicate_flat {β : Type} {encβ : β → List Value} (n : Nat) (x : β) : (List.replicate n (encβ x)).flatten = (List.replicate n x).flatMap encβ := by
 rw [List.flatMap_def, List.map_replicate]

def Flat (enc : α → List Value) (k : Nat) (cur : Array Value) (d : Array α) : Prop := d.size * k ≤ cur.size ∧ ∀ j c, j < d.size → c < k → cur[j * k + c]? = some (enc d[j]!)[c]!

theorem lt_flat {j c k n : Nat} (hj : j < n) (hc : c < k) : j * k + c < n * k := by
 have := Nat.mul_le_mul_right k (show j + 1 ≤ n from hj); rw [Nat.add_mul, Nat.one_mul] at this; omega
theorem holds_of_flat {w : World} {g : Nat} {cur : Array Value} {e : TypeId} {d : Array α} (hg : w.heap[g]? = some (.cells cur e (0, 0))) (h : Flat enc k cur d) : HoldsK enc k w g 0 d := by
 intro t ht
 rw [size_flatK] at ht
 have k0 : 0 < k := by
  rcases Nat.eq_zero_or_pos k with h | h
  ·subst h; simp at ht
  ·exact h
 rw [get_flatK _ _ _ _ ht, Nat.zero_add]
 have h1 : t / k < d.size := by rw [Nat.div_lt_iff_lt_mul k0]; exact ht
 have h2 := h.2 (t / k) (t % k) h1 (Nat.mod_lt _ k0)
 rw [Nat.div_add_mod'] at h2
 exact ⟨by simp [World.cell?, hg, h2], by simp [World.frozen?, hg]⟩

theorem heap_swk (h : SWK enc k w0 blk off dk W) {cur : Array Value} {e : TypeId} {fz : Nat × Nat} (hg : w0.heap[blk]? = some (.cells cur e fz)) : W.heap[blk]? = some (.cells (putCells id off (flatK enc k dk) cur) e fz) := by
 obtain ⟨n, os, rfl⟩ := h
 have hb : blk < w0.heap.size := by
  rcases Nat.lt_or_ge blk w0.heap.size with h | h
  ·exact h
  ·rw [Array.getElem?_eq_none h] at hg; cases hg
 unfold sortWorldK putRowK putRow mapBlock grow
 simp only []
 rw [Array.getElem?_append_left (by simp; exact hb), Array.getElem?_modify, if_pos rfl]
 show (w0.heap[blk]?).map _ = _
 rw [hg]
 rfl
theorem flat_swk (h : SWK enc k w0 blk 0 dk W) {cur : Array Value} {e : TypeId} {fz : Nat × Nat} (hg : w0.heap[blk]? = some (.cells cur e fz)) (hle : dk.size * k ≤ cur.size) :
  ∃ cur', W.heap[blk]? = some (.cells cur' e fz) ∧ cur'.size = cur.size ∧ Flat enc k cur' dk := by
 refine ⟨_, heap_swk h hg, by simp [putCells], ?_, fun j c hj hc => ?_⟩
 ·simp [putCells, hle]
 ·have hl := lt_flat hj hc
  have e1 : (j * k + c) / k = j := (blk_iff k j _ (by omega)).1 ⟨by omega, by omega⟩
  have e2 : (j * k + c) % k = c := by rw [Nat.mod_eq_sub_div_mul, e1]; omega
  have h3 := get_flatK enc k dk (j * k + c) hl
  rw [e1, e2] at h3
  unfold putCells
  rw [Array.getElem?_mapIdx, Array.getElem?_eq_getElem (by omega)]
  simp only [Option.map_some, Nat.zero_le, true_and, Nat.zero_add, size_flatK, hl, if_true, Nat.sub_zero, h3]
  rfl
theorem below_swk (h : SWK enc k w0 blk off dk W) {B : Nat} (hB : B ≤ blk) (hblk : blk < w0.heap.size) : Below B w0 W := by
 obtain ⟨n, os, rfl⟩ := h
 refine ⟨rfl, rfl, rfl, ?_, fun j hj => ?_⟩
 ·show _ ≤ (grow (putRowK enc k (Sort.ahead w0 n) blk off dk) os).heap.size
  rw [size_grow, size_putRowK]; exact Nat.le_add_right _ _
 ·unfold sortWorldK putRowK putRow mapBlock grow
  simp only []
  rw [Array.getElem?_append_left (by simp; show j < w0.heap.size; omega), Array.getElem?_modify, if_neg (by omega)]
  rfl

theorem _root_.Go.Proofs.SWK.st0 {d0 : Array α} (h : SWK enc k w0 blk off dk W) (R : RowK enc k w0 blk off d0) (hs : dk.size = d0.size) (P : Program) (i : Nat) (hi : i < dk.size) (y : α) :
  Sem.run P (storeCells ⟨blk, off + i * k, none⟩ (enc y) 0) W = .ok () (W.setCells blk (off + i * k) (enc y)) :=
 stores_of_holds P (h.holds R.hblk R.hH hs) (i * k) _ (by rw [R.hk, size_flatK]; exact rowK_bnd dk k i hi) (R.h1 _)

theorem swk_done [DecidableEq α] {d : Array α} {kk : Nat} (h : SWK enc k w0 blk off dk W) (hk : ∀ x, (enc x).length = k) (hblk : blk < w0.heap.size) (hI : CompInv d d.size kk dk) (zr : α) :
  SWK enc k w0 blk off (compactUpTo d d.size ++ List.replicate (d.size - kk) zr).toArray (W.setCells blk (off + kk * k) (List.replicate (d.size - kk) (enc zr)).flatten) := by
 have := swk_fill hk hblk (List.replicate (d.size - kk) zr) dk W kk h (by have := hI.lt; have := hI.size; simp; omega)
 rw [hI.done zr] at this
 rwa [replicate_flat]
end Go.Proofs.SymP
/- The walk of slices.SortStableFunc's family at []api.Bind: slices.Compact; what is asked: the comparing function's contract (it may lay blocks), how the row lies. -/
namespace Go.Proofs.YtghommaokdhjmaaGreat.SortB
open Go.Shelf Go.RowKit Go.Lib Go.Sort Go.Proofs.SymP
variable {P : Program} {α : Type} [Inhabited α] [DecidableEq α]

set_option maxHeartbeats 8000000 in
set_option maxRecDepth 1000000 in
theorem compact (L : Lays P) (k : Nat) (aE : ∀ w, (isAgg 66).run P w = .ok true w) (zE : ∀ w, (Go.sizeOf 66).run P w = .ok k w) (enc : α → List Value) (FG : P.funcs[118]? = some Tryz.f118)
  (heq : ∀ (x y : α) (w : World), (binOp .eql 66 (.agg (enc x).toArray) (.agg (enc y).toArray)).run P w = .ok (.bool (decide (x = y))) w) (hne : ∀ (x y : α) (w : World), (binOp .neq 66 (.agg (enc x).toArray) (.agg (enc y).toArray)).run P w = .ok (.bool (!decide (x = y))) w)
  (hgd : ∀ (op : BinOp) (a b : Operand) (x y : α) (w : World), Sem.run P (eqGuard op 66 a b (.agg (enc x).toArray) (.agg (enc y).toArray)) w = .ok () w)
  (zr : α) (vE : ∀ w, (zeroValue 66).run P w = .ok (.agg (enc zr).toArray) w) (blk off sz cap : Nat) (d0 d : Array α) (w0 w : World)
  (R : RowK enc k w0 blk off d0) (hs : d0.size = sz) (hd : d.size = sz) (S : SWK enc k w0 blk off d w) (hsz : sz < 4611686018427387904) (hcap : sz ≤ cap) :
  Calls P 118 #[.slice (some ⟨blk, off, none⟩) sz cap] w fun e w' => e = .returned (.slice (some ⟨blk, off, none⟩) (compactUpTo d d.size).length cap) ∧ SWK enc k w0 blk off (compactUpTo d d.size ++ List.replicate (d.size - (compactUpTo d d.size).length) zr).toArray w' := by
 subst hd
 have mixed := L.mixed; have t0 := L.t0; have a0 := L.a0; have z0 := L.z0; have v0 := L.v0; have tI := L.tI; have aI := L.aI; have zI := L.zI; have vI := L.vI; have tB := L.tB; have aB := L.aB; have zB := L.zB; have vB := L.vB; have tS := L.tS; have aS := L.aS; have zS := L.zS; have vS := L.vS; have tF := L.tF; have aF := L.aF; have zF := L.zF; have vF := L.vF; have tU := L.tU; have aU := L.aU; have zU := L.zU; have vU := L.vU
 have S0 : Aside (SWK enc k w0 blk off d w) := S
 clear S
 have hcl0 : ∀ x, (Value.agg (enc x).toArray).cells = (enc x).toArray := fun x => rfl
 simp only [Value.cells] at hcl0
 have same : (∀ j, j < d.size → keeps d j = true) → (compactUpTo d d.size).length = d.size ∧ (compactUpTo d d.size ++ List.replicate (d.size - (compactUpTo d d.size).length) zr).toArray = d := by
  intro hall
  have e : compactUpTo d d.size = d.toList := by rw [compactUpTo_all d _ hall, range_map_get]
  rw [e]
  exact ⟨by simp, by simp⟩
 have HS : Aside ((∀ j, j < d.size → keeps d j = true) → (compactUpTo d d.size).length = d.size ∧ (compactUpTo d d.size ++ List.replicate (d.size - (compactUpTo d d.size).length) zr).toArray = d) := same
 clear same
 by_cases h2 : d.size < 2
 ·have h2z : (d.size : Int) < 2 := by omega
  go_enter FG, Tryz.ntmps118
  go_wp2
  go_ret
  obtain ⟨e1, e2⟩ := HS.out (fun j hj => keeps_lt_one d j (by omega))
  exact ⟨by rw [e1]; rfl, by rw [e2]; exact S0.out⟩
 ·have h2z : ¬ (d.size : Int) < 2 := by omega
  go_enter FG, Tryz.ntmps118
  go_wp2
  go_loopg [3] d.size (fun g s3 wr => ∃ k1 : Nat, 1 ≤ k1 ∧ k1 ≤ d.size ∧ d.size - k1 ≤ g ∧ s3 = .int .i64 k1 ∧ Aside (SWK enc k w0 blk off d wr) ∧ Hid (∀ j, j < k1 → keeps d j = true))
  case atStart => exact ⟨1, Nat.le_refl _, by omega, by omega, rfl, S0, keeps_lt_one d⟩
  case round =>
   clear S0
   obtain ⟨k1, hk1, hk, hg, rfl, S1, A⟩ := hrel
   by_cases hlt : k1 < d.size
   ·have hltz : (k1 : Int) < (d.size : Int) := by omega
    have ea1 : ((k1 : Int)).toNat = k1 := by omega
    have pa1 : (0 : Int) ≤ (k1 : Int) := by omega
    have ba1 : (k1 : Int) < (d.size : Int) := by omega
    have ra1 : IntKind.i64.wrap ((k1 : Int)) = (k1 : Int) := by rw [IntKind.wrap_i64]; omega
    have ec1 : ((k1 : Int) - 1).toNat = k1 - 1 := by omega
    have pc1 : (0 : Int) ≤ (k1 : Int) - 1 := by omega
    have bc1 : (k1 : Int) - 1 < (d.size : Int) := by omega
    have rc1 : IntKind.i64.wrap ((k1 : Int) - 1) = (k1 : Int) - 1 := by rw [IntKind.wrap_i64]; omega
    have l1a := S1.out.ld1 R (by omega) P (k1) (by omega)
    have l1b := S1.out.ld1 R (by omega) P (k1 - 1) (by omega)
    obtain ⟨x, hx⟩ : ∃ x, d[k1]! = x := ⟨_, rfl⟩
    obtain ⟨y, hy⟩ : ∃ y, d[k1 - 1]! = y := ⟨_, rfl⟩
    have B : Hid (d[k1]! = x ∧ d[k1 - 1]! = y) := ⟨hx, hy⟩
    rw [hx] at l1a
    rw [hy] at l1b
    clear hx hy
    have nx : (enc x).length = k := R.hk _
    have ny : (enc y).length = k := R.hk _
    have q1 := heq x y
    have q2 := fun op a b => hgd op a b x y
    by_cases hdup : x = y
    ·have hdd : decide (x = y) = true := decide_eq_true hdup
     rw [hdd] at q1
     generalize hcx : enc x = cx at l1a q1 q2
     generalize hcy : enc y = cy at l1b q1 q2
     go_wp2_with fail
     go_big_region_o
     go_wp2
     clear l1a l1b q1 q2
     go_loopg [3, 5] d.size (fun g s3 s5 wr => ∃ (kk k2 : Nat) (dk : Array α), s3 = .int .i64 kk ∧ s5 = .int .i64 k2 ∧ 1 ≤ k2 ∧ k1 + k2 ≤ d.size ∧ d.size - (k1 + k2) ≤ g ∧ Aside (SWK enc k w0 blk off dk wr) ∧ Hid (CompInv d (k1 + k2) kk dk))
     case atStart => exact ⟨k1, 1, d, rfl, rfl, Nat.le_refl _, by omega, by omega, S1.out.drew, CompInv.start A.out (keeps_neg (by omega) (by rw [B.out.1, B.out.2]; exact hdup))⟩
     case round =>
      clear S1 A B hg
      obtain ⟨kk, k2, dk, rfl, rfl, h1, hle, hg2, S1, I2⟩ := hrel
      have hkk := I2.out.lt
      have hds := I2.out.size
      by_cases hlt2 : k1 + k2 < d.size
      ·have hlt2z : (k2 : Int) < ((d.size - k1 : Nat) : Int) := by omega
       have ea2 : ((k2 : Int)).toNat = k2 := by omega
       have pa2 : (0 : Int) ≤ (k2 : Int) := by omega
       have ba2 : (k2 : Int) < (d.size : Int) := by omega
       have ra2 : IntKind.i64.wrap ((k2 : Int)) = (k2 : Int) := by rw [IntKind.wrap_i64]; omega
       have ec2 : ((k2 : Int) - 1).toNat = k2 - 1 := by omega
       have pc2 : (0 : Int) ≤ (k2 : Int) - 1 := by omega
       have bc2 : (k2 : Int) - 1 < (d.size : Int) := by omega
       have rc2 : IntKind.i64.wrap ((k2 : Int) - 1) = (k2 : Int) - 1 := by rw [IntKind.wrap_i64]; omega
       have ed2 : ((kk : Int)).toNat = kk := by omega
       have pd2 : (0 : Int) ≤ (kk : Int) := by omega
       have bd2 : (kk : Int) < (d.size : Int) := by omega
       have rd2 : IntKind.i64.wrap ((kk : Int)) = (kk : Int) := by rw [IntKind.wrap_i64]; omega
       have e2x : (k1 + k2) * k = k1 * k + k2 * k := Nat.add_mul _ _ _
       have e2y : (k1 + k2 - 1) * k = k1 * k + (k2 - 1) * k := by rw [show k1 + k2 - 1 = k1 + (k2 - 1) by omega, Nat.add_mul]
       have l2a := S1.out.ld1 R (by omega) P (k1 + k2) (by omega)
       have l2b := S1.out.ld1 R (by omega) P (k1 + k2 - 1) (by omega)
       have l2c := S1.out.drew.ld1 R (by omega) P (k1 + k2) (by omega)
       rw [I2.out.high (k1 + k2) (by omega), e2x, ← Nat.add_assoc] at l2a l2c
       rw [I2.out.high (k1 + k2 - 1) (by omega), e2y, ← Nat.add_assoc] at l2b
       obtain ⟨u, hu⟩ : ∃ x, d[k1 + k2]! = x := ⟨_, rfl⟩
       obtain ⟨v, hv⟩ : ∃ y, d[k1 + k2 - 1]! = y := ⟨_, rfl⟩
       have C : Hid (d[k1 + k2]! = u ∧ d[k1 + k2 - 1]! = v) := ⟨hu, hv⟩
       rw [hu] at l2a l2c
       rw [hv] at l2b
       clear hu hv e2x e2y
       have nu : (enc u).length = k := R.hk _
       have nv : (enc v).length = k := R.hk _
       have q1 := hne u v
       have q2 := fun op a b => hgd op a b u v
       have s2 := S1.out.drew.st0 R (by omega) P kk (by omega) u
       have S2 := swk_set S1.out.drew R.hk R.hblk kk (by omega) u
       by_cases huv : u = v
       ·have hdd : decide (u = v) = true := decide_eq_true huv
        rw [hdd] at q1
        clear s2 S2 l2c
        generalize hcx : enc u = cx at l2a q1 q2
        generalize hcy : enc v = cy at l2b q1 q2
        go_wp2_with fail
        go_big_region_o
        go_wp2
        go_roundg (d.size - (k1 + (k2 + 1)))
        case measure => omega
        case rel => exact ⟨kk, k2 + 1, dk, rfl, by go_num, by omega, by omega, Nat.le_refl _, S1.out.drew, I2.out.skip (keeps_neg (by omega) (by rw [C.out.1, C.out.2]; exact huv))⟩
       ·have hdd : decide (u = v) = false := decide_eq_false huv
        rw [hdd] at q1
        have S2' : Aside _ := S2
        clear S2
        generalize hcx : enc u = cx at l2a q1 q2 l2c s2 S2' nu
        generalize hcy : enc v = cy at l2b q1 q2
        go_wp2_with fail
        go_big_region_o
        go_wp2
        go_roundg (d.size - (k1 + (k2 + 1)))
        case measure => omega
        case rel => exact ⟨kk + 1, k2 + 1, dk.setIfInBounds kk u, by go_num, by go_num, by omega, by omega, Nat.le_refl _, S2'.out, by have := I2.out.keep hlt2 (keeps_pos (by rw [C.out.1, C.out.2]; exact huv)); rwa [C.out.1] at this⟩
      ·have hend : k1 + k2 = d.size := by omega
       have hlt2z : ¬ (k2 : Int) < ((d.size - k1 : Nat) : Int) := by omega
       have hcl : ∀ ty, (Builtin.clear_ #[29] ty #[.slice (some ⟨blk, off + kk * k, none⟩) (d.size - kk) (cap - kk)]).run P wr = .ok (.tuple #[]) (wr.setCells blk (off + kk * k) (List.replicate (d.size - kk) (enc zr)).flatten) :=
        fun ty => run_clear_k wr _ _ ty _ (enc zr) tS vE (by rfl) (R.h1 zr) blk (off + kk * k) _ _ (by omega) (fun j hj => by
         rw [R.hk] at hj
         have := (S1.out.holds R.hblk R.hH (by omega)) (kk * k + j) (by rw [size_flatK, hds]; have := Nat.sub_mul d.size kk k; have := Nat.mul_le_mul_right k (show kk ≤ d.size by omega); omega)
         rw [← Nat.add_assoc] at this
         rw [this.1]; rfl) (fun j hj => by
         rw [R.hk] at hj
         have := (S1.out.holds R.hblk R.hH (by omega)) (kk * k + j) (by rw [size_flatK, hds]; have := Nat.sub_mul d.size kk k; have := Nat.mul_le_mul_right k (show kk ≤ d.size by omega); omega)
         rw [← Nat.add_assoc] at this
         exact this.2)
       go_wp2
       go_ret
       have hI := I2.out
       rw [hend] at hI
       refine ⟨by rw [hI.len]; rfl, ?_⟩
       rw [hI.len]
       exact swk_done S1.out R.hk R.hblk hI zr
    ·have hdd : decide (x = y) = false := decide_eq_false hdup
     rw [hdd] at q1
     generalize hcx : enc x = cx at l1a q1 q2
     generalize hcy : enc y = cy at l1b q1 q2
     go_wp2_with fail
     go_big_region_o
     go_wp2
     go_roundg (d.size - (k1 + 1))
     case measure => omega
     case rel =>
      refine ⟨k1 + 1, by omega, by omega, Nat.le_refl _, by go_num, S1.out.drew, fun j hj => ?_⟩
      by_cases e : j = k1
      ·subst e
       exact keeps_pos (by rw [B.out.1, B.out.2]; exact hdup)
      ·exact A.out j (by omega)
   ·have hltz : ¬ (k1 : Int) < (d.size : Int) := by omega
    go_wp2
    go_ret
    obtain ⟨e1, e2⟩ := HS.out (fun j hj => A.out j (by omega))
    exact ⟨by rw [e1]; rfl, by rw [e2]; exact S1.out⟩
#print axioms compact
end Go.Proofs.YtghommaokdhjmaaGreat.SortB
/- The walk of slices.SortStableFunc's family at []api.Bind: the nil row; what is asked: the comparing function's contract (it may lay blocks), how the row lies. -/
namespace Go.Proofs.YtghommaokdhjmaaGreat.SortB
open Go.Shelf Go.RowKit Go.Lib Go.Sort Go.Proofs.SymP
variable {P : Program}

set_option maxHeartbeats 4000000 in
set_option maxRecDepth 1000000 in
theorem insertion_nil (L : Lays P) (FG : P.funcs[148]? = some Tryz.f148) (g : Nat) (cb : Array Value) (w : World) : Calls P 148 #[.slice none 0 0, .int .i64 0, .int .i64 0, .func (.func g) #[] cb] w fun e w' => e = .returned (.tuple #[]) ∧ Go.RowKit.Below w.heap.size w w' := by
 have mixed := L.mixed; have t0 := L.t0; have a0 := L.a0; have z0 := L.z0; have v0 := L.v0; have tI := L.tI; have aI := L.aI; have zI := L.zI; have vI := L.vI; have tB := L.tB; have aB := L.aB; have zB := L.zB; have vB := L.vB; have tS := L.tS; have aS := L.aS; have zS := L.zS; have vS := L.vS; have tF := L.tF; have aF := L.aF; have zF := L.zF; have vF := L.vF; have tU := L.tU; have aU := L.aU; have zU := L.zU; have vU := L.vU
 go_enter FG, Tryz.ntmps148
 go_wp2
 go_loopg [8] 1 (fun kx s8 wr => s8 = .int .i64 1 ∧ w = wr)
 case atStart => exact ⟨rfl, rfl⟩
 case round =>
  obtain ⟨rfl, rfl⟩ := hrel
  go_wp2
  go_end0
  exact ⟨rfl, Go.RowKit.Below.refl _ _⟩

set_option maxHeartbeats 4000000 in
set_option maxRecDepth 1000000 in
theorem stable_nil (L : Lays P) (FI : P.funcs[148]? = some Tryz.f148) (g : Nat) (cb : Array Value) (w : World) : Calls P 131 #[.slice none 0 0, .int .i64 0, .func (.func g) #[] cb] w fun e w' => e = .returned (.tuple #[]) ∧ Go.RowKit.Below w.heap.size w w' := by
 have mixed := L.mixed; have t0 := L.t0; have a0 := L.a0; have z0 := L.z0; have v0 := L.v0; have tI := L.tI; have aI := L.aI; have zI := L.zI; have vI := L.vI; have tB := L.tB; have aB := L.aB; have zB := L.zB; have vB := L.vB; have tS := L.tS; have aS := L.aS; have zS := L.zS; have vS := L.vS; have tF := L.tF; have aF := L.aF; have zF := L.zF; have vF := L.vF; have tU := L.tU; have aU := L.aU; have zU := L.zU; have vU := L.vU
 have FG := L.Fst
 have ei : ∀ args w, (callFunc 148 args).run P w = .ok (.enter 148 args) w := enters_of FI (by kernel_rfl) rfl
 have hI := insertion_nil L FI g cb w
 go_enter FG, Tryz.ntmps131
 go_wp2
 go_loopg [7, 8] 1 (fun kx s7 s8 wr => s7 = .int .i64 0 ∧ s8 = .int .i64 20 ∧ w = wr)
 case atStart => exact ⟨rfl, rfl, rfl⟩
 case round =>
  obtain ⟨rfl, rfl, rfl⟩ := hrel
  go_wp2_with (go_at_fn 148; refine hI.mono ?_; rintro e w1 ⟨rfl, hB⟩)
  have HB : Aside _ := hB
  clear hB hI
  go_loopg [6] 1 (fun kx s6 wr => s6 = .int .i64 20 ∧ w1 = wr)
  case atStart => exact ⟨rfl, rfl⟩
  case round =>
   obtain ⟨rfl, rfl⟩ := hrel
   go_wp2
   go_end0
   exact ⟨rfl, HB.out⟩

set_option maxHeartbeats 4000000 in
set_option maxRecDepth 1000000 in
theorem sort_nil (L : Lays P) (FI : P.funcs[148]? = some Tryz.f148) (g : Nat) (cb : Array Value) (w : World) : Calls P 115 #[.slice none 0 0, .func (.func g) #[] cb] w fun e w' => e = .returned (.tuple #[]) ∧ Go.RowKit.Below w.heap.size w w' := by
 have mixed := L.mixed; have t0 := L.t0; have a0 := L.a0; have z0 := L.z0; have v0 := L.v0; have tI := L.tI; have aI := L.aI; have zI := L.zI; have vI := L.vI; have tB := L.tB; have aB := L.aB; have zB := L.zB; have vB := L.vB; have tS := L.tS; have aS := L.aS; have zS := L.zS; have vS := L.vS; have tF := L.tF; have aF := L.aF; have zF := L.zF; have vF := L.vF; have tU := L.tU; have aU := L.aU; have zU := L.zU; have vU := L.vU
 have FG := L.Fss
 have ei : ∀ args w, (callFunc 131 args).run P w = .ok (.enter 131 args) w := enters_of L.Fst (by kernel_rfl) rfl
 have hI := stable_nil L FI g cb w
 go_enter FG, Tryz.ntmps115
 go_wp2_with (go_at_fn 131; refine hI.mono ?_; rintro e w1 ⟨rfl, hB⟩)
 go_end0
 exact ⟨rfl, hB⟩

set_option maxHeartbeats 4000000 in
set_option maxRecDepth 1000000 in
theorem compact_nil (L : Lays P) (FG : P.funcs[118]? = some Tryz.f118) (w : World) : Calls P 118 #[.slice none 0 0] w fun e w' => e = .returned (.slice none 0 0) ∧ w' = w := by
 have mixed := L.mixed; have t0 := L.t0; have a0 := L.a0; have z0 := L.z0; have v0 := L.v0; have tI := L.tI; have aI := L.aI; have zI := L.zI; have vI := L.vI; have tB := L.tB; have aB := L.aB; have zB := L.zB; have vB := L.vB; have tS := L.tS; have aS := L.aS; have zS := L.zS; have vS := L.vS; have tF := L.tF; have aF := L.aF; have zF := L.zF; have vF := L.vF; have tU := L.tU; have aU := L.aU; have zU := L.zU; have vU := L.vU
 go_enter FG, Tryz.ntmps118
 go_wp2
 go_ret
 exact ⟨rfl, rfl⟩
end Go.Proofs.YtghommaokdhjmaaGreat.SortB
namespace Go.Proofs.YtghommaokdhjmaaGreat.P
open Go.RowKit Go.Proofs.YtghommaokdhjmaaGreatW.PrintWords Go.Proofs.YtghommaokdhjmaaGreatW.PrintLast Go.Proofs.YtghommaokdhjmaaGreatW.PrintWords
set_option linter.unusedVariables false
set_option linter.unusedSimpArgs false



def errW : Option Int → Value
 | none => .nilIface
 | some c => .iface 0 (.int .i64 c)
theorem errW_none : errW none = .nilIface := rfl
theorem errW_some (c : Int) : errW (some c) = .iface 0 (.int .i64 c) := rfl

theorem info3 : (Tryz.prog.info? 3).map (fun i => (i.zero, i.size, i.bytes)) = some (some (.int .i64 0), 1, 8) := by kernel_rfl
theorem info9 : (Tryz.prog.info? 9).map (fun i => (i.zero, i.size, i.bytes)) = some (some (.string ⟨#[]⟩), 1, 16) := by kernel_rfl
theorem info58 : (Tryz.prog.info? 58).map (fun i => (i.zero, i.size, i.bytes)) = some (some (.agg #[(.string ⟨#[]⟩), (.slice none 0 0)]), 2, 40) := by kernel_rfl
theorem info64 : (Tryz.prog.info? 64).map (fun i => (i.zero, i.size, i.bytes)) = some (some (.agg #[(.int .i64 0), (.int .i64 0), (.string ⟨#[]⟩)]), 3, 32) := by kernel_rfl
theorem info66 : (Tryz.prog.info? 66).map (fun i => (i.zero, i.size, i.bytes)) = some (some (.agg #[(.string ⟨#[]⟩), (.int .i64 0), (.int .i64 0), (.string ⟨#[]⟩)]), 4, 48) := by kernel_rfl
structure S64 where
 f0 : Int
 f1 : Int
 f2 : ByteArray
def z64 : S64 := ⟨(0 : Int), (0 : Int), (⟨#[]⟩ : ByteArray)⟩
def k64 : Kd S64 := Kd.iso (Kd.pair (Kd.int .i64) (Kd.pair (Kd.int .i64) Kd.string)) (fun x : S64 => (x.f0, x.f1, x.f2))
theorem k64_open {w : World} {x : S64} {cs : List Value} (h : k64.K w x cs) : cs = [.int .i64 x.f0, .int .i64 x.f1, .string x.f2] := by
 obtain ⟨_, _, rfl, rfl, ⟨_, _, rfl, rfl, rfl⟩⟩ := h
 exact rfl
theorem k64_mk (w : World) (x : S64)  : k64.K w x [.int .i64 x.f0, .int .i64 x.f1, .string x.f2] := ⟨[.int .i64 x.f0], [.int .i64 x.f1, .string x.f2], rfl, rfl, ⟨[.int .i64 x.f1], [.string x.f2], rfl, rfl, rfl⟩⟩
theorem k64_mkM (w : World) (base : Nat) (ok : Nat → Prop) (x : S64)  : k64.M w base ok x [.int .i64 x.f0, .int .i64 x.f1, .string x.f2] := ⟨[.int .i64 x.f0], [.int .i64 x.f1, .string x.f2], rfl, rfl, ⟨[.int .i64 x.f1], [.string x.f2], rfl, rfl, rfl⟩⟩
def rd_T64 (xs : List S64) (i : Int) : S64 := xs.getD i.toNat z64
theorem at_T64 {w : World} {A : Option Addr} {n : Nat} {xs : List S64} (h : Kd.C k64 w A n xs) (i : Int) (h0 : 0 ≤ i) (h1 : i < n) : ∃ ad , A = some ad ∧ w.cell? (ad.add (i.toNat * 3)) = some (.int .i64 (rd_T64 xs i).f0) ∧ w.cell? ⟨(ad.add (i.toNat * 3)).block, (ad.add (i.toNat * 3)).off + 1, none⟩ = some (.int .i64 (rd_T64 xs i).f1) ∧ w.cell? ⟨(ad.add (i.toNat * 3)).block, (ad.add (i.toNat * 3)).off + 2, none⟩ = some (.string (rd_T64 xs i).f2) := by
 obtain ⟨ad, c, e, _, hK, hc0⟩ := Kd.C_get h z64 i h0 h1
 have hc : ∀ j u, c[j]? = some u → w.cell? (ad.add (i.toNat * 3 + j)) = some u := hc0
 obtain rfl := k64_open hK
 exact ⟨ad, e, hc 0 _ rfl, by rw [← add_field _ _ 1 (by omega)]; exact hc 1 _ rfl, by rw [← add_field _ _ 2 (by omega)]; exact hc 2 _ rfl⟩

structure S92 where
 f0 : ByteArray
 f1 : S64
def z92 : S92 := ⟨(⟨#[]⟩ : ByteArray), z64⟩
def k92 : Kd S92 := Kd.iso (Kd.pair Kd.string k64) (fun x : S92 => (x.f0, x.f1))
theorem k92_open {w : World} {x : S92} {cs : List Value} (h : k92.K w x cs) : cs = [.string x.f0, .int .i64 x.f1.f0, .int .i64 x.f1.f1, .string x.f1.f2] := by
 obtain ⟨_, _, rfl, rfl, s1⟩ := h
 obtain rfl := k64_open s1
 exact rfl
theorem k92_mk (w : World) (x : S92)  : k92.K w x [.string x.f0, .int .i64 x.f1.f0, .int .i64 x.f1.f1, .string x.f1.f2] := ⟨[.string x.f0], [.int .i64 x.f1.f0, .int .i64 x.f1.f1, .string x.f1.f2], rfl, rfl, (k64_mk w x.f1 )⟩
theorem k92_mkM (w : World) (base : Nat) (ok : Nat → Prop) (x : S92)  : k92.M w base ok x [.string x.f0, .int .i64 x.f1.f0, .int .i64 x.f1.f1, .string x.f1.f2] := ⟨[.string x.f0], [.int .i64 x.f1.f0, .int .i64 x.f1.f1, .string x.f1.f2], rfl, rfl, (k64_mkM w base ok x.f1 )⟩
def rd_T92 (xs : List S92) (i : Int) : S92 := xs.getD i.toNat z92
theorem at_T92 {w : World} {A : Option Addr} {n : Nat} {xs : List S92} (h : Kd.C k92 w A n xs) (i : Int) (h0 : 0 ≤ i) (h1 : i < n) : ∃ ad , A = some ad ∧ w.cell? (ad.add (i.toNat * 4)) = some (.string (rd_T92 xs i).f0) ∧ w.cell? ⟨(ad.add (i.toNat * 4)).block, (ad.add (i.toNat * 4)).off + 1, none⟩ = some (.int .i64 (rd_T92 xs i).f1.f0) ∧ w.cell? ⟨(ad.add (i.toNat * 4)).block, (ad.add (i.toNat * 4)).off + 2, none⟩ = some (.int .i64 (rd_T92 xs i).f1.f1) ∧ w.cell? ⟨(ad.add (i.toNat * 4)).block, (ad.add (i.toNat * 4)).off + 3, none⟩ = some (.string (rd_T92 xs i).f1.f2) := by
 obtain ⟨ad, c, e, _, hK, hc0⟩ := Kd.C_get h z92 i h0 h1
 have hc : ∀ j u, c[j]? = some u → w.cell? (ad.add (i.toNat * 4 + j)) = some u := hc0
 obtain rfl := k92_open hK
 exact ⟨ad, e, hc 0 _ rfl, by rw [← add_field _ _ 1 (by omega)]; exact hc 1 _ rfl, by rw [← add_field _ _ 2 (by omega)]; exact hc 2 _ rfl, by rw [← add_field _ _ 3 (by omega)]; exact hc 3 _ rfl⟩

structure S25 where
 f0 : ByteArray
 f1 : (List S92)
def z25 : S25 := ⟨(⟨#[]⟩ : ByteArray), ([] : List S92)⟩
def k25 : Kd S25 := Kd.iso (Kd.pair Kd.string (Kd.slice 92 k92)) (fun x : S25 => (x.f0, x.f1))
theorem k25_open {w : World} {x : S25} {cs : List Value} (h : k25.K w x cs) : ∃ A1 c1, cs = [.string x.f0, .slice A1 x.f1.length c1] ∧ x.f1.length ≤ c1 ∧ k92.C w A1 x.f1.length x.f1 := by
 obtain ⟨_, _, rfl, rfl, ⟨A1, c1, rfl, l1, g1⟩⟩ := h
 exact ⟨A1, c1, rfl, l1, g1⟩
theorem k25_mk (w : World) (x : S25) {A1 : Option Addr} {c1 : Nat} (l1 : x.f1.length ≤ c1) (g1 : k92.C w A1 x.f1.length x.f1) : k25.K w x [.string x.f0, .slice A1 x.f1.length c1] := ⟨[.string x.f0], [.slice A1 x.f1.length c1], rfl, rfl, ⟨A1, c1, rfl, l1, g1⟩⟩
structure S62 where
 f0 : Int
 f1 : S25
 f2 : Int
 f3 : Int
def z62 : S62 := ⟨(0 : Int), z25, (0 : Int), (0 : Int)⟩
def k62 : Kd S62 := Kd.iso (Kd.pair (Kd.int .i64) (Kd.pair k25 (Kd.pair (Kd.int .i64) (Kd.int .i64)))) (fun x : S62 => (x.f0, x.f1, x.f2, x.f3))
theorem k62_open {w : World} {x : S62} {cs : List Value} (h : k62.K w x cs) : ∃ A2 c2, cs = [.int .i64 x.f0, .string x.f1.f0, .slice A2 x.f1.f1.length c2, .int .i64 x.f2, .int .i64 x.f3] ∧ x.f1.f1.length ≤ c2 ∧ k92.C w A2 x.f1.f1.length x.f1.f1 := by
 obtain ⟨_, _, rfl, rfl, ⟨_, _, rfl, s1, ⟨_, _, rfl, rfl, rfl⟩⟩⟩ := h
 obtain ⟨A2, c2, rfl, l2, g2⟩ := k25_open s1
 exact ⟨A2, c2, rfl, l2, g2⟩
theorem k62_mk (w : World) (x : S62) {A2 : Option Addr} {c2 : Nat} (l2 : x.f1.f1.length ≤ c2) (g2 : k92.C w A2 x.f1.f1.length x.f1.f1) : k62.K w x [.int .i64 x.f0, .string x.f1.f0, .slice A2 x.f1.f1.length c2, .int .i64 x.f2, .int .i64 x.f3] := ⟨[.int .i64 x.f0], [.string x.f1.f0, .slice A2 x.f1.f1.length c2, .int .i64 x.f2, .int .i64 x.f3], rfl, rfl, ⟨[.string x.f1.f0, .slice A2 x.f1.f1.length c2], [.int .i64 x.f2, .int .i64 x.f3], rfl, (k25_mk w x.f1 l2 g2), ⟨[.int .i64 x.f2], [.int .i64 x.f3], rfl, rfl, rfl⟩⟩⟩
def rd_T62 (xs : List S62) (i : Int) : S62 := xs.getD i.toNat z62
theorem at_T62 {w : World} {A : Option Addr} {n : Nat} {xs : List S62} (h : Kd.C k62 w A n xs) (i : Int) (h0 : 0 ≤ i) (h1 : i < n) : ∃ ad A2 c2, A = some ad ∧ w.cell? (ad.add (i.toNat * 5)) = some (.int .i64 (rd_T62 xs i).f0) ∧ w.cell? ⟨(ad.add (i.toNat * 5)).block, (ad.add (i.toNat * 5)).off + 1, none⟩ = some (.string (rd_T62 xs i).f1.f0) ∧ w.cell? ⟨(ad.add (i.toNat * 5)).block, (ad.add (i.toNat * 5)).off + 2, none⟩ = some (.slice A2 (rd_T62 xs i).f1.f1.length c2) ∧ w.cell? ⟨(ad.add (i.toNat * 5)).block, (ad.add (i.toNat * 5)).off + 3, none⟩ = some (.int .i64 (rd_T62 xs i).f2) ∧ w.cell? ⟨(ad.add (i.toNat * 5)).block, (ad.add (i.toNat * 5)).off + 4, none⟩ = some (.int .i64 (rd_T62 xs i).f3) ∧ (rd_T62 xs i).f1.f1.length ≤ c2 ∧ k92.C w A2 (rd_T62 xs i).f1.f1.length (rd_T62 xs i).f1.f1 := by
 obtain ⟨ad, c, e, _, hK, hc0⟩ := Kd.C_get h z62 i h0 h1
 have hc : ∀ j u, c[j]? = some u → w.cell? (ad.add (i.toNat * 5 + j)) = some u := hc0
 obtain ⟨A2, c2, rfl, l2, g2⟩ := k62_open hK
 exact ⟨ad, A2, c2, e, hc 0 _ rfl, by rw [← add_field _ _ 1 (by omega)]; exact hc 1 _ rfl, by rw [← add_field _ _ 2 (by omega)]; exact hc 2 _ rfl, by rw [← add_field _ _ 3 (by omega)]; exact hc 3 _ rfl, by rw [← add_field _ _ 4 (by omega)]; exact hc 4 _ rfl, l2, g2⟩

structure S58 where
 f0 : ByteArray
 f1 : (List S64)
def z58 : S58 := ⟨(⟨#[]⟩ : ByteArray), ([] : List S64)⟩
def k58 : Kd S58 := Kd.iso (Kd.pair Kd.string (Kd.slice 64 k64)) (fun x : S58 => (x.f0, x.f1))
theorem k58_open {w : World} {x : S58} {cs : List Value} (h : k58.K w x cs) : ∃ A1 c1, cs = [.string x.f0, .slice A1 x.f1.length c1] ∧ x.f1.length ≤ c1 ∧ k64.C w A1 x.f1.length x.f1 := by
 obtain ⟨_, _, rfl, rfl, ⟨A1, c1, rfl, l1, g1⟩⟩ := h
 exact ⟨A1, c1, rfl, l1, g1⟩
theorem k58_mk (w : World) (x : S58) {A1 : Option Addr} {c1 : Nat} (l1 : x.f1.length ≤ c1) (g1 : k64.C w A1 x.f1.length x.f1) : k58.K w x [.string x.f0, .slice A1 x.f1.length c1] := ⟨[.string x.f0], [.slice A1 x.f1.length c1], rfl, rfl, ⟨A1, c1, rfl, l1, g1⟩⟩
theorem k58_mkM (w : World) (base : Nat) (ok : Nat → Prop) (x : S58) {v1 : Value} (g1 : k64.R 64 w base ok v1 x.f1) : k58.M w base ok x [.string x.f0, v1] := ⟨[.string x.f0], [v1], rfl, rfl, ⟨v1, rfl, g1⟩⟩
def rd_T58 (xs : List S58) (i : Int) : S58 := xs.getD i.toNat z58
theorem at_T58 {w : World} {A : Option Addr} {n : Nat} {xs : List S58} (h : Kd.C k58 w A n xs) (i : Int) (h0 : 0 ≤ i) (h1 : i < n) : ∃ ad A1 c1, A = some ad ∧ w.cell? (ad.add (i.toNat * 2)) = some (.string (rd_T58 xs i).f0) ∧ w.cell? ⟨(ad.add (i.toNat * 2)).block, (ad.add (i.toNat * 2)).off + 1, none⟩ = some (.slice A1 (rd_T58 xs i).f1.length c1) ∧ (rd_T58 xs i).f1.length ≤ c1 ∧ k64.C w A1 (rd_T58 xs i).f1.length (rd_T58 xs i).f1 := by
 obtain ⟨ad, c, e, _, hK, hc0⟩ := Kd.C_get h z58 i h0 h1
 have hc : ∀ j u, c[j]? = some u → w.cell? (ad.add (i.toNat * 2 + j)) = some u := hc0
 obtain ⟨A1, c1, rfl, l1, g1⟩ := k58_open hK
 exact ⟨ad, A1, c1, e, hc 0 _ rfl, by rw [← add_field _ _ 1 (by omega)]; exact hc 1 _ rfl, l1, g1⟩

structure S66 where
 f0 : ByteArray
 f1 : S64
def z66 : S66 := ⟨(⟨#[]⟩ : ByteArray), z64⟩
def k66 : Kd S66 := Kd.iso (Kd.pair Kd.string k64) (fun x : S66 => (x.f0, x.f1))
theorem k66_open {w : World} {x : S66} {cs : List Value} (h : k66.K w x cs) : cs = [.string x.f0, .int .i64 x.f1.f0, .int .i64 x.f1.f1, .string x.f1.f2] := by
 obtain ⟨_, _, rfl, rfl, s1⟩ := h
 obtain rfl := k64_open s1
 exact rfl
theorem k66_mk (w : World) (x : S66)  : k66.K w x [.string x.f0, .int .i64 x.f1.f0, .int .i64 x.f1.f1, .string x.f1.f2] := ⟨[.string x.f0], [.int .i64 x.f1.f0, .int .i64 x.f1.f1, .string x.f1.f2], rfl, rfl, (k64_mk w x.f1 )⟩
theorem k66_mkM (w : World) (base : Nat) (ok : Nat → Prop) (x : S66)  : k66.M w base ok x [.string x.f0, .int .i64 x.f1.f0, .int .i64 x.f1.f1, .string x.f1.f2] := ⟨[.string x.f0], [.int .i64 x.f1.f0, .int .i64 x.f1.f1, .string x.f1.f2], rfl, rfl, (k64_mkM w base ok x.f1 )⟩
def rd_T66 (xs : List S66) (i : Int) : S66 := xs.getD i.toNat z66
theorem at_T66 {w : World} {A : Option Addr} {n : Nat} {xs : List S66} (h : Kd.C k66 w A n xs) (i : Int) (h0 : 0 ≤ i) (h1 : i < n) : ∃ ad , A = some ad ∧ w.cell? (ad.add (i.toNat * 4)) = some (.string (rd_T66 xs i).f0) ∧ w.cell? ⟨(ad.add (i.toNat * 4)).block, (ad.add (i.toNat * 4)).off + 1, none⟩ = some (.int .i64 (rd_T66 xs i).f1.f0) ∧ w.cell? ⟨(ad.add (i.toNat * 4)).block, (ad.add (i.toNat * 4)).off + 2, none⟩ = some (.int .i64 (rd_T66 xs i).f1.f1) ∧ w.cell? ⟨(ad.add (i.toNat * 4)).block, (ad.add (i.toNat * 4)).off + 3, none⟩ = some (.string (rd_T66 xs i).f1.f2) := by
 obtain ⟨ad, c, e, _, hK, hc0⟩ := Kd.C_get h z66 i h0 h1
 have hc : ∀ j u, c[j]? = some u → w.cell? (ad.add (i.toNat * 4 + j)) = some u := hc0
 obtain rfl := k66_open hK
 exact ⟨ad, e, hc 0 _ rfl, by rw [← add_field _ _ 1 (by omega)]; exact hc 1 _ rfl, by rw [← add_field _ _ 2 (by omega)]; exact hc 2 _ rfl, by rw [← add_field _ _ 3 (by omega)]; exact hc 3 _ rfl⟩

structure S27 where
 f0 : ByteArray
 f1 : S25
 f2 : (List S62)
end Go.Proofs.YtghommaokdhjmaaGreat.P
namespace Go.Proofs.YtghommaokdhjmaaGreat.Gate
open Go.Proofs.YtghommaokdhjmaaGreat.P Go.RowKit Go.Proofs.YtghommaokdhjmaaGreatW.PrintWords
section
variable {P : Program} {ops : Array Oper} {rest : List Oper} {o : Oper} {a : Act} {Q : Exit → Act → World → Prop} {W : World}
theorem gate_callee {f : FuncId} {xs : Array Operand} {ts : Array TypeId} (_h : o.op = .call { callee := .value (.func f), args := xs, argTypes := ts }) (k : wpList P ops Q (o :: rest) a W) : wpList P ops Q (o :: rest) a W := k
theorem gate_builtin {b : Builtin} {xs : Array Operand} {ts : Array TypeId} (_h : o.op = .call { callee := .builtin b, args := xs, argTypes := ts }) (k : wpList P ops Q (o :: rest) a W) : wpList P ops Q (o :: rest) a W := k
end
theorem bk {w W : World} {g : Nat} {o : Obj} (h : w.heap[g]? = some o) (k : w.heap[g]? = some o → W.heap[g]? = some o := by intro h_; (with_reducible repeat (first | refine blk_drewN ?_ _ | refine blk_drew ?_ | refine blk_alloc ?_ _)); exact h_) : W.heap[g]? = some o := k h
theorem bB0 {w W : World} (h : Below w.heap.size w W := by repeat (first | (with_reducible first | exact HB.out | apply below_alloc | apply pw_below_drewN | apply below_drew1) | exact HB.out)) : Below w.heap.size w W := h
theorem bB1 {w W : World} {b0 : Nat} (g0 : w.heap.size ≤ b0) (h : w.heap.size ≤ b0 → Below w.heap.size w W := by intro g0_; repeat (first | (with_reducible first | exact HB.out | apply below_alloc | apply pw_below_drewN | apply below_drew1 | refine below_set ?_ g0_) | exact HB.out)) : Below w.heap.size w W := h g0
theorem bB2 {w W : World} {b0 b1 : Nat} (g0 : w.heap.size ≤ b0) (g1 : w.heap.size ≤ b1) (h : w.heap.size ≤ b0 → w.heap.size ≤ b1 → Below w.heap.size w W := by intro g0_ g1_; repeat (first | (with_reducible first | exact HB.out | apply below_alloc | apply pw_below_drewN | apply below_drew1 | refine below_set ?_ g0_ | refine below_set ?_ g1_) | exact HB.out)) : Below w.heap.size w W := h g0 g1
theorem bB3 {w W : World} {b0 b1 b2 : Nat} (g0 : w.heap.size ≤ b0) (g1 : w.heap.size ≤ b1) (g2 : w.heap.size ≤ b2) (h : w.heap.size ≤ b0 → w.heap.size ≤ b1 → w.heap.size ≤ b2 → Below w.heap.size w W := by intro g0_ g1_ g2_; repeat (first | (with_reducible first | exact HB.out | apply below_alloc | apply pw_below_drewN | apply below_drew1 | refine below_set ?_ g0_ | refine below_set ?_ g1_ | refine below_set ?_ g2_) | exact HB.out)) : Below w.heap.size w W := h g0 g1 g2
section
variable {α : Type} {d : Kd α} {w W : World} {A : Option Addr} {n e base : Nat} {ok : Nat → Prop} {v : Value} {xs : List α}
theorem sC (x : Kd.C d w A n xs) (k : Kd.C d w A n xs → Kd.C d W A n xs := by intro x_; repeat (first | exact x_ | (with_reducible refine Kd.C_alloc ?_ _) | (with_reducible refine Kd.C_drewN ?_ _) | (with_reducible refine Kd.C_drew ?_))) : Kd.C d W A n xs := k x
theorem sR (x : Kd.R d e w base ok v xs) (k : Kd.R d e w base ok v xs → Kd.R d e W base ok v xs := by intro x_; (with_reducible repeat (first | apply Kd.R_alloc | apply Kd.R_drewN | apply Kd.R_drew)); exact x_) : Kd.R d e W base ok v xs := k x
end
def bb (n x : Nat) : Array Bool := ((List.range n).map fun i => x.testBit i).toArray
theorem aG {p : Prop} (h : p := by (try simp only [List.map_toArray, List.map_cons, List.map_nil]); first | done | rfl | (simp only [List.length_drop, List.length_take]; rfl)) : p := h
section
variable {P : Program} {ops : Array Oper} {rest : List Oper} {o : Oper} {a : Act} {Q : Exit → Act → World → Prop} {W : World}
theorem bE {N : Tmp} {cs : Array Value} {t : TypeId} (h : ∀ g, g = W.heap.size → ∀ w1, w1.heap[g]? = some (.cells cs t (0, 0)) → Below W.heap.size W w1 → wpList P ops Q rest (a.put o.dst (.pointer (some ⟨g, 0, none⟩))) w1) (hgd : o.guard = none := by rfl) (hd : o.dst = some N := by rfl)
    (hrun : (execOp a.eval o).run P W = .ok (.value (.pointer (some ⟨W.heap.size, 0, none⟩))) (W.alloc (.cells cs t (0, 0))) := by first | (go_simp; done) | (go_simp; rfl)) : wpList P ops Q (o :: rest) a W := box_event hgd hd hrun h
end
theorem eW {p : Prop} (h : p := by first | rfl | (simp [errW_none, errW_some] <;> rfl) | (simp [*, errW_none, errW_some] <;> rfl)) : p := h
end Go.Proofs.YtghommaokdhjmaaGreat.Gate
theorem Go.Proofs.YtghommaokdhjmaaGreat.mvc {w w' : Go.World} {a : Go.Addr} {v : Go.Value} (hb : Go.RowKit.Below w.heap.size w w') (z : w.cell? a = some v) : w'.cell? a = some v := (hb.cell (Go.World.block_lt_of_cell? _ _ z)).trans z
theorem Go.Proofs.YtghommaokdhjmaaGreat.drz {p : Prop} {w w1 : Go.World} (h : p := by first | rfl | (simp; done) | (simp [*]; done)) (k : Go.Proofs.YtghommaokdhjmaaGreatW.PrintWords.Drawn0 w w1 := by repeat (first | exact Go.Proofs.YtghommaokdhjmaaGreatW.PrintWords.Drawn0.refl _ | apply Go.Proofs.YtghommaokdhjmaaGreatW.PrintWords.Drawn0.step)) : p ∧ Go.Proofs.YtghommaokdhjmaaGreatW.PrintWords.Drawn0 w w1 := ⟨h, k⟩
namespace Go.Proofs.YtghommaokdhjmaaGreat.P
open Go.RowKit Go.Proofs.YtghommaokdhjmaaGreatW.PrintWords Go.Proofs.YtghommaokdhjmaaGreatW.PrintLast Gate
def val_small.f (a0 : Int) : Option (Bool) := if a0 ≥ 97 then (some (decide (a0 ≤ 122))) else (some false)
set_option maxHeartbeats 8000000 in
set_option maxRecDepth 100000 in
theorem val_small.calls (a0 : Int) (r : Bool) (w : World) (h : val_small.f a0 = some r) :
  Calls Tryz.prog 127 #[.int .u8 a0] w fun e w' => e = .returned (.bool r) ∧ Drawn0 w w' := by
 have H : (if a0 ≥ 97 then (some (decide (a0 ≤ 122))) else (some false)) = some r := h
 clear h
 by_cases c2 : a0 ≥ 97
 ·rw [if_pos c2] at H
  have c2b0 : decide (97 ≤ a0) = true := decide_eq_true c2
  clear c2
  obtain rfl := Option.some.inj H
  go_enter Tryz.func127, Tryz.ntmps127
  go_wp2
  go_ret
  exact drz
 ·rw [if_neg c2] at H
  have c2b0 : decide (97 ≤ a0) = false := decide_eq_false c2
  clear c2
  obtain rfl := Option.some.inj H
  go_enter Tryz.func127, Tryz.ntmps127
  go_wp2
  go_ret
  exact drz
def val_large.f (a0 : Int) : Option (Bool) := if a0 ≥ 65 then (some (decide (a0 ≤ 90))) else (some false)
set_option maxHeartbeats 8000000 in
set_option maxRecDepth 100000 in
theorem val_large.calls (a0 : Int) (r : Bool) (w : World) (h : val_large.f a0 = some r) :
  Calls Tryz.prog 128 #[.int .u8 a0] w fun e w' => e = .returned (.bool r) ∧ Drawn0 w w' := by
 have H : (if a0 ≥ 65 then (some (decide (a0 ≤ 90))) else (some false)) = some r := h
 clear h
 by_cases c2 : a0 ≥ 65
 ·rw [if_pos c2] at H
  have c2b0 : decide (65 ≤ a0) = true := decide_eq_true c2
  clear c2
  obtain rfl := Option.some.inj H
  go_enter Tryz.func128, Tryz.ntmps128
  go_wp2
  go_ret
  exact drz
 ·rw [if_neg c2] at H
  have c2b0 : decide (65 ≤ a0) = false := decide_eq_false c2
  clear c2
  obtain rfl := Option.some.inj H
  go_enter Tryz.func128, Tryz.ntmps128
  go_wp2
  go_ret
  exact drz
def val_digit.f (a0 : Int) : Option (Bool) := if a0 ≥ 48 then (some (decide (a0 ≤ 57))) else (some false)
set_option maxHeartbeats 8000000 in
set_option maxRecDepth 100000 in
theorem val_digit.calls (a0 : Int) (r : Bool) (w : World) (h : val_digit.f a0 = some r) :
  Calls Tryz.prog 129 #[.int .u8 a0] w fun e w' => e = .returned (.bool r) ∧ Drawn0 w w' := by
 have H : (if a0 ≥ 48 then (some (decide (a0 ≤ 57))) else (some false)) = some r := h
 clear h
 by_cases c2 : a0 ≥ 48
 ·rw [if_pos c2] at H
  have c2b0 : decide (48 ≤ a0) = true := decide_eq_true c2
  clear c2
  obtain rfl := Option.some.inj H
  go_enter Tryz.func129, Tryz.ntmps129
  go_wp2
  go_ret
  exact drz
 ·rw [if_neg c2] at H
  have c2b0 : decide (48 ≤ a0) = false := decide_eq_false c2
  clear c2
  obtain rfl := Option.some.inj H
  go_enter Tryz.func129, Tryz.ntmps129
  go_wp2
  go_ret
  exact drz
mutual
def val_symbol.j0 : Nat → ByteArray → Bool → Option (Bool)
 | 0, _, _ => none
 | k + 1, x0, x17 => if x17 = true then (some false) else (val_symbol.l0 k x0 (x0.size : Int) 0)
def val_symbol.l0 : Nat → ByteArray → Int → Int → Option (Bool)
 | 0, _, _, _ => none
 | k + 1, x0, x19, x20 => if x20 < x19 then (if 0 ≤ x20 then (if x20 < (x0.size : Int) then ((val_small.f (bt x0 x20)).bind fun t115 => (if t115 = true then (val_symbol.l0 k x0 x19 (wrap64 (x20 + 1))) else ((val_large.f (bt x0 x20)).bind fun t116 => (if t116 = true then (val_symbol.l0 k x0 x19 (wrap64 (x20 + 1))) else ((val_digit.f (bt x0 x20)).bind fun t117 => (if t117 = true then (val_symbol.l0 k x0 x19 (wrap64 (x20 + 1))) else (if (bt x0 x20) = 95 then (val_symbol.l0 k x0 x19 (wrap64 (x20 + 1))) else (some false)))))))) else (none)) else (none)) else (some true)
end
def val_symbol.f (k : Nat) (a0 : ByteArray) : Option (Bool) := if (a0.size : Int) < 1 then (val_symbol.j0 k a0 true) else (if (a0.size : Int) > 24 then (val_symbol.j0 k a0 true) else (if 0 < (a0.size : Int) then ((val_small.f (bt a0 0)).bind fun t114 => (val_symbol.j0 k a0 (!t114))) else (none)))
set_option maxHeartbeats 8000000 in
set_option maxRecDepth 100000 in
theorem val_symbol.calls (k : Nat) (a0 : ByteArray) (r : Bool) (w : World) (h : val_symbol.f k a0 = some r) :
  Calls Tryz.prog 112 #[.string a0] w fun e w' => e = .returned (.bool r) ∧ Drawn0 w w' := by
 have H : (if (a0.size : Int) < 1 then (val_symbol.j0 k a0 true) else (if (a0.size : Int) > 24 then (val_symbol.j0 k a0 true) else (if 0 < (a0.size : Int) then ((val_small.f (bt a0 0)).bind fun t114 => (val_symbol.j0 k a0 (!t114))) else (none)))) = some r := h
 clear h
 have HC2 := Aside0.mk H
 clear H
 go_enter Tryz.func112, Tryz.ntmps112
 go_upto_region 1 with (fail)
 go_cut [17] (fun v17 wc => ∃ (kq : Nat) (x17_1 : Bool), v17 = .bool x17_1 ∧ Aside0 (val_symbol.j0 kq a0 x17_1 = some r) ∧ Aside0 (kq ≤ k) ∧ Drawn0 w wc)
 case first =>
  have H := HC2.out
  clear HC2
  by_cases c3 : (a0.size : Int) < 1
  ·rw [if_pos c3] at H
   have c3b0 : decide ((a0.size : Int) < 1) = true := decide_eq_true c3
   have c3b1 : decide (a0.size < 1) = true := decide_eq_true (by omega)
   clear c3
   (first | rw [c3b0] | (simp only [i64_w, i32_w]; rw [c3b0]) | skip)
   have H' := Aside0.mk H
   clear H
   go_wp2
   go_meet
   case rel => exact ⟨_, (true), (by first | rfl | (simp; done) | (simp [*]; done)), H', ⟨by first | omega | exact Nat.le_refl _⟩, by repeat (first | exact Drawn0.refl _ | apply Drawn0.step)⟩
  ·rw [if_neg c3] at H
   have c3b0 : decide ((a0.size : Int) < 1) = false := decide_eq_false c3
   have c3b1 : decide (a0.size < 1) = false := decide_eq_false (by omega)
   clear c3
   (first | rw [c3b0] | (simp only [i64_w, i32_w]; rw [c3b0]) | skip)
   by_cases c4 : (a0.size : Int) > 24
   ·rw [if_pos c4] at H
    have c4b0 : decide (24 < (a0.size : Int)) = true := decide_eq_true c4
    have c4b1 : decide (24 < a0.size) = true := decide_eq_true (by omega)
    clear c4
    have H' := Aside0.mk H
    clear H
    go_wp2
    go_meet
    case rel => exact ⟨_, (true), (by first | rfl | (simp; done) | (simp [*]; done)), H', ⟨by first | omega | exact Nat.le_refl _⟩, by repeat (first | exact Drawn0.refl _ | apply Drawn0.step)⟩
   ·rw [if_neg c4] at H
    have c4b0 : decide (24 < (a0.size : Int)) = false := decide_eq_false c4
    have c4b1 : decide (24 < a0.size) = false := decide_eq_false (by omega)
    clear c4
    by_cases c5 : 0 < (a0.size : Int)
    ·rw [if_pos c5] at H
     have c5b0 : decide (0 < (a0.size : Int)) = true := decide_eq_true c5
     have c5b1 : decide (0 < a0.size) = true := decide_eq_true (by omega)
     clear c5
     replace H := Option.bind_eq_some_iff.mp H
     obtain ⟨t114, A70, H⟩ := H
     replace H : (val_symbol.j0 k a0 (!t114)) = some r := H
     have A7 := Aside0.mk A70
     clear A70
     have H' := Aside0.mk H
     clear H
     have p6 : 0 ≤ (0 : Int) := (by omega)
     have q6 : 0 < a0.size := (by have : (0 : Int) < (a0.size : Int) := of_decide_eq_true (by first | (with_reducible assumption) | assumption); omega)
     have hx6 : ∀ h : 0 < a0.size, ((a0[0]'h).toNat : Int) = bt a0 0 := bt_at a0 0
     clear p6
     have qi6 : (0 < (a0.size : Int)) = True := eq_true (of_decide_eq_true (by first | (with_reducible assumption) | assumption))
     replace q6 := eq_true q6
     go_wp2_with (first | (go_at_call 127; (with_reducible refine (val_small.calls (bt a0 0) t114 _ A7.out).mono ?_); rintro e w' ⟨rfl, ⟨nd, rfl⟩⟩))
     go_meet
     case rel => exact ⟨_, (!t114), (by first | rfl | (simp; done) | (simp [*]; done)), H', ⟨by first | omega | exact Nat.le_refl _⟩, by repeat (first | exact Drawn0.refl _ | apply Drawn0.step)⟩
    ·rw [if_neg c5] at H
     exact absurd H (by simp)
 case rest =>
  clear HC2
  (try clear c1); (try clear p2); (try clear c3); (try clear c3b0); (try clear c3b1); (try clear c4); (try clear c4b0); (try clear c4b1); (try clear c5); (try clear c5b0); (try clear c5b1); (try clear p6); (try clear q6); (try clear hx6); (try clear qi6); (try clear p6); (try clear q6)
  obtain ⟨kq, x17_1, rfl, HA, HJ1, ⟨mc1, rfl⟩⟩ := hcut
  cases kq with
  | zero => exact absurd HA.out (by simp [val_symbol.j0])
  | succ kj1 =>
   have H := HA.out
   clear HA
   simp only [val_symbol.j0] at H
   by_cases c8 : x17_1 = true
   ·subst c8
    have H1 : (some false) = some r := by rw [if_pos rfl] at H; exact H
    clear H
    have H := H1
    clear H1
    obtain rfl := Option.some.inj H
    go_wp2
    go_ret
    exact drz
   ·replace c8 := Bool.eq_false_iff.mpr c8
    subst c8
    have H1 : (val_symbol.l0 kj1 a0 (a0.size : Int) 0) = some r := by rw [if_neg (show ¬ (false = true) by decide)] at H; exact H
    clear H
    have H := H1
    clear H1
    have H' := Aside0.mk H
    clear H
    go_wp2
    go_loopg [20] kj1 (fun kq v20 w' => ∃ (x20_2 : Int), v20 = .int .i64 x20_2 ∧ Aside0 (val_symbol.l0 kq a0 (a0.size : Int) x20_2 = some r) ∧ Aside0 (kq ≤ kj1) ∧ Drawn0 w w')
    case atStart => exact ⟨(0), (by first | rfl | (simp; done) | (simp [*]; done)), H', ⟨Nat.le_refl _⟩, by repeat (first | exact Drawn0.refl _ | apply Drawn0.step)⟩
    case round =>
     clear H'
     (try clear c1); (try clear p2); (try clear c3); (try clear c3b0); (try clear c3b1); (try clear c4); (try clear c4b0); (try clear c4b1); (try clear c5); (try clear c5b0); (try clear c5b1); (try clear p6); (try clear q6); (try clear hx6); (try clear qi6); (try clear c8); (try clear p2); (try clear p6); (try clear q6)
     obtain ⟨x20_2, rfl, HA, HK2, ⟨m2, rfl⟩⟩ := hrel
     cases gk with
     | zero => exact absurd HA.out (by simp [val_symbol.l0])
     | succ k2 =>
      have H := HA.out
      clear HA
      simp only [val_symbol.l0] at H
      by_cases c9 : x20_2 < (a0.size : Int)
      ·rw [if_pos c9] at H
       have c9b0 : decide (x20_2 < (a0.size : Int)) = true := decide_eq_true c9
       clear c9
       by_cases c10 : 0 ≤ x20_2
       ·rw [if_pos c10] at H
        have c10b0 : decide (0 ≤ x20_2) = true := decide_eq_true c10
        clear c10
        by_cases c11 : x20_2 < (a0.size : Int)
        ·rw [if_pos c11] at H
         have c11b0 : decide (x20_2 < (a0.size : Int)) = true := decide_eq_true c11
         clear c11
         replace H := Option.bind_eq_some_iff.mp H
         obtain ⟨t115, A130, H⟩ := H
         replace H : (if t115 = true then (val_symbol.l0 k2 a0 (a0.size : Int) (wrap64 (x20_2 + 1))) else ((val_large.f (bt a0 x20_2)).bind fun t116 => (if t116 = true then (val_symbol.l0 k2 a0 (a0.size : Int) (wrap64 (x20_2 + 1))) else ((val_digit.f (bt a0 x20_2)).bind fun t117 => (if t117 = true then (val_symbol.l0 k2 a0 (a0.size : Int) (wrap64 (x20_2 + 1))) else (if (bt a0 x20_2) = 95 then (val_symbol.l0 k2 a0 (a0.size : Int) (wrap64 (x20_2 + 1))) else (some false))))))) = some r := H
         have A13 := Aside0.mk A130
         clear A130
         by_cases c14 : t115 = true
         ·subst c14
          have H1 : (val_symbol.l0 k2 a0 (a0.size : Int) (wrap64 (x20_2 + 1))) = some r := by rw [if_pos rfl] at H; exact H
          clear H
          have H := H1
          clear H1
          have H' := Aside0.mk H
          clear H
          have p12 : 0 ≤ (x20_2 : Int) := of_decide_eq_true (by first | (with_reducible assumption) | assumption)
          have q12 : x20_2 < (a0.size : Int) := of_decide_eq_true (by first | (with_reducible assumption) | assumption)
          have hx12 := bt_at a0 x20_2
          replace p12 := eq_true p12
          replace q12 := eq_true q12
          go_wp2_with (first | ((with_reducible refine gate_callee (f := 127) rfl ?_); refine goesL_ (some 26) rfl rfl Tryz.func127 (by kernel_rfl) rfl #[.int .u8 (bt a0 x20_2)] rfl aG ?_; (with_reducible refine (val_small.calls (bt a0 x20_2) true _ A13.out).mono ?_); rintro e w' ⟨rfl, ⟨nd, rfl⟩⟩; refine ⟨_, rfl, ?_⟩))
          go_roundg k2
          case measure => have := HJ1.out; have := HK2.out; omega
          case rel => exact ⟨(wrap64 (x20_2 + 1)), (by first | rfl | (simp; done) | (simp [*]; done)), H', ⟨by have := HJ1.out; have := HK2.out; omega⟩, by repeat (first | exact Drawn0.refl _ | apply Drawn0.step)⟩
         ·replace c14 := Bool.eq_false_iff.mpr c14
          subst c14
          have H1 : ((val_large.f (bt a0 x20_2)).bind fun t116 => (if t116 = true then (val_symbol.l0 k2 a0 (a0.size : Int) (wrap64 (x20_2 + 1))) else ((val_digit.f (bt a0 x20_2)).bind fun t117 => (if t117 = true then (val_symbol.l0 k2 a0 (a0.size : Int) (wrap64 (x20_2 + 1))) else (if (bt a0 x20_2) = 95 then (val_symbol.l0 k2 a0 (a0.size : Int) (wrap64 (x20_2 + 1))) else (some false)))))) = some r := by rw [if_neg (show ¬ (false = true) by decide)] at H; exact H
          clear H
          have H := H1
          clear H1
          replace H := Option.bind_eq_some_iff.mp H
          obtain ⟨t116, A160, H⟩ := H
          replace H : (if t116 = true then (val_symbol.l0 k2 a0 (a0.size : Int) (wrap64 (x20_2 + 1))) else ((val_digit.f (bt a0 x20_2)).bind fun t117 => (if t117 = true then (val_symbol.l0 k2 a0 (a0.size : Int) (wrap64 (x20_2 + 1))) else (if (bt a0 x20_2) = 95 then (val_symbol.l0 k2 a0 (a0.size : Int) (wrap64 (x20_2 + 1))) else (some false))))) = some r := H
          have A16 := Aside0.mk A160
          clear A160
          by_cases c17 : t116 = true
          ·subst c17
           have H1 : (val_symbol.l0 k2 a0 (a0.size : Int) (wrap64 (x20_2 + 1))) = some r := by rw [if_pos rfl] at H; exact H
           clear H
           have H := H1
           clear H1
           have H' := Aside0.mk H
           clear H
           have p12 : 0 ≤ (x20_2 : Int) := of_decide_eq_true (by first | (with_reducible assumption) | assumption)
           have q12 : x20_2 < (a0.size : Int) := of_decide_eq_true (by first | (with_reducible assumption) | assumption)
           have hx12 := bt_at a0 x20_2
           replace p12 := eq_true p12
           replace q12 := eq_true q12
           go_wp2_with (first | ((with_reducible refine gate_callee (f := 127) rfl ?_); refine goesL_ (some 26) rfl rfl Tryz.func127 (by kernel_rfl) rfl #[.int .u8 (bt a0 x20_2)] rfl aG ?_; (with_reducible refine (val_small.calls (bt a0 x20_2) false _ A13.out).mono ?_); rintro e w' ⟨rfl, ⟨nd, rfl⟩⟩; refine ⟨_, rfl, ?_⟩; have p15 : 0 ≤ (x20_2 : Int) := of_decide_eq_true (by first | (with_reducible assumption) | assumption); have q15 : x20_2 < (a0.size : Int) := of_decide_eq_true (by first | (with_reducible assumption) | assumption); have hx15 := bt_at a0 x20_2; replace p15 := eq_true p15; replace q15 := eq_true q15) | (go_at_call 128; (with_reducible refine (val_large.calls (bt a0 x20_2) true _ A16.out).mono ?_); rintro e w' ⟨rfl, ⟨nd, rfl⟩⟩))
           go_roundg k2
           case measure => have := HJ1.out; have := HK2.out; omega
           case rel => exact ⟨(wrap64 (x20_2 + 1)), (by first | rfl | (simp; done) | (simp [*]; done)), H', ⟨by have := HJ1.out; have := HK2.out; omega⟩, by repeat (first | exact Drawn0.refl _ | apply Drawn0.step)⟩
          ·replace c17 := Bool.eq_false_iff.mpr c17
           subst c17
           have H1 : ((val_digit.f (bt a0 x20_2)).bind fun t117 => (if t117 = true then (val_symbol.l0 k2 a0 (a0.size : Int) (wrap64 (x20_2 + 1))) else (if (bt a0 x20_2) = 95 then (val_symbol.l0 k2 a0 (a0.size : Int) (wrap64 (x20_2 + 1))) else (some false)))) = some r := by rw [if_neg (show ¬ (false = true) by decide)] at H; exact H
           clear H
           have H := H1
           clear H1
           replace H := Option.bind_eq_some_iff.mp H
           obtain ⟨t117, A190, H⟩ := H
           replace H : (if t117 = true then (val_symbol.l0 k2 a0 (a0.size : Int) (wrap64 (x20_2 + 1))) else (if (bt a0 x20_2) = 95 then (val_symbol.l0 k2 a0 (a0.size : Int) (wrap64 (x20_2 + 1))) else (some false))) = some r := H
           have A19 := Aside0.mk A190
           clear A190
           by_cases c20 : t117 = true
           ·subst c20
            have H1 : (val_symbol.l0 k2 a0 (a0.size : Int) (wrap64 (x20_2 + 1))) = some r := by rw [if_pos rfl] at H; exact H
            clear H
            have H := H1
            clear H1
            have H' := Aside0.mk H
            clear H
            have p12 : 0 ≤ (x20_2 : Int) := of_decide_eq_true (by first | (with_reducible assumption) | assumption)
            have q12 : x20_2 < (a0.size : Int) := of_decide_eq_true (by first | (with_reducible assumption) | assumption)
            have hx12 := bt_at a0 x20_2
            replace p12 := eq_true p12
            replace q12 := eq_true q12
            go_wp2_with (first | ((with_reducible refine gate_callee (f := 127) rfl ?_); refine goesL_ (some 26) rfl rfl Tryz.func127 (by kernel_rfl) rfl #[.int .u8 (bt a0 x20_2)] rfl aG ?_; (with_reducible refine (val_small.calls (bt a0 x20_2) false _ A13.out).mono ?_); rintro e w' ⟨rfl, ⟨nd, rfl⟩⟩; refine ⟨_, rfl, ?_⟩; have p15 : 0 ≤ (x20_2 : Int) := of_decide_eq_true (by first | (with_reducible assumption) | assumption); have q15 : x20_2 < (a0.size : Int) := of_decide_eq_true (by first | (with_reducible assumption) | assumption); have hx15 := bt_at a0 x20_2; replace p15 := eq_true p15; replace q15 := eq_true q15) | (go_at_call 128; (with_reducible refine (val_large.calls (bt a0 x20_2) false _ A16.out).mono ?_); rintro e w' ⟨rfl, ⟨nd, rfl⟩⟩; have p18 : 0 ≤ (x20_2 : Int) := of_decide_eq_true (by first | (with_reducible assumption) | assumption); have q18 : x20_2 < (a0.size : Int) := of_decide_eq_true (by first | (with_reducible assumption) | assumption); have hx18 := bt_at a0 x20_2; replace p18 := eq_true p18; replace q18 := eq_true q18) | (go_at_call 129; (with_reducible refine (val_digit.calls (bt a0 x20_2) true _ A19.out).mono ?_); rintro e w' ⟨rfl, ⟨nd, rfl⟩⟩))
            go_roundg k2
            case measure => have := HJ1.out; have := HK2.out; omega
            case rel => exact ⟨(wrap64 (x20_2 + 1)), (by first | rfl | (simp; done) | (simp [*]; done)), H', ⟨by have := HJ1.out; have := HK2.out; omega⟩, by repeat (first | exact Drawn0.refl _ | apply Drawn0.step)⟩
           ·replace c20 := Bool.eq_false_iff.mpr c20
            subst c20
            have H1 : (if (bt a0 x20_2) = 95 then (val_symbol.l0 k2 a0 (a0.size : Int) (wrap64 (x20_2 + 1))) else (some false)) = some r := by rw [if_neg (show ¬ (false = true) by decide)] at H; exact H
            clear H
            have H := H1
            clear H1
            by_cases c22 : (bt a0 x20_2) = 95
            ·rw [if_pos c22] at H
             have c22b0 : ((bt a0 x20_2) == 95) = true := beq_iff_eq.mpr c22
             have c22b1 : ((bt a0 x20_2) != 95) = false := bne_eq_false_iff_eq.mpr c22
             clear c22
             have H' := Aside0.mk H
             clear H
             have p12 : 0 ≤ (x20_2 : Int) := of_decide_eq_true (by first | (with_reducible assumption) | assumption)
             have q12 : x20_2 < (a0.size : Int) := of_decide_eq_true (by first | (with_reducible assumption) | assumption)
             have hx12 := bt_at a0 x20_2
             replace p12 := eq_true p12
             replace q12 := eq_true q12
             go_wp2_with (first | ((with_reducible refine gate_callee (f := 127) rfl ?_); refine goesL_ (some 26) rfl rfl Tryz.func127 (by kernel_rfl) rfl #[.int .u8 (bt a0 x20_2)] rfl aG ?_; (with_reducible refine (val_small.calls (bt a0 x20_2) false _ A13.out).mono ?_); rintro e w' ⟨rfl, ⟨nd, rfl⟩⟩; refine ⟨_, rfl, ?_⟩; have p15 : 0 ≤ (x20_2 : Int) := of_decide_eq_true (by first | (with_reducible assumption) | assumption); have q15 : x20_2 < (a0.size : Int) := of_decide_eq_true (by first | (with_reducible assumption) | assumption); have hx15 := bt_at a0 x20_2; replace p15 := eq_true p15; replace q15 := eq_true q15) | (go_at_call 128; (with_reducible refine (val_large.calls (bt a0 x20_2) false _ A16.out).mono ?_); rintro e w' ⟨rfl, ⟨nd, rfl⟩⟩; have p18 : 0 ≤ (x20_2 : Int) := of_decide_eq_true (by first | (with_reducible assumption) | assumption); have q18 : x20_2 < (a0.size : Int) := of_decide_eq_true (by first | (with_reducible assumption) | assumption); have hx18 := bt_at a0 x20_2; replace p18 := eq_true p18; replace q18 := eq_true q18) | (go_at_call 129; (with_reducible refine (val_digit.calls (bt a0 x20_2) false _ A19.out).mono ?_); rintro e w' ⟨rfl, ⟨nd, rfl⟩⟩; have p21 : 0 ≤ (x20_2 : Int) := of_decide_eq_true (by first | (with_reducible assumption) | assumption); have q21 : x20_2 < (a0.size : Int) := of_decide_eq_true (by first | (with_reducible assumption) | assumption); have hx21 := bt_at a0 x20_2; replace p21 := eq_true p21; replace q21 := eq_true q21))
             go_roundg k2
             case measure => have := HJ1.out; have := HK2.out; omega
             case rel => exact ⟨(wrap64 (x20_2 + 1)), (by first | rfl | (simp; done) | (simp [*]; done)), H', ⟨by have := HJ1.out; have := HK2.out; omega⟩, by repeat (first | exact Drawn0.refl _ | apply Drawn0.step)⟩
            ·rw [if_neg c22] at H
             have c22b0 : ((bt a0 x20_2) == 95) = false := beq_eq_false_iff_ne.mpr c22
             have c22b1 : ((bt a0 x20_2) != 95) = true := bne_iff_ne.mpr c22
             obtain rfl := Option.some.inj H
             have p12 : 0 ≤ (x20_2 : Int) := of_decide_eq_true (by first | (with_reducible assumption) | assumption)
             have q12 : x20_2 < (a0.size : Int) := of_decide_eq_true (by first | (with_reducible assumption) | assumption)
             have hx12 := bt_at a0 x20_2
             replace p12 := eq_true p12
             replace q12 := eq_true q12
             go_wp2_with (first | ((with_reducible refine gate_callee (f := 127) rfl ?_); refine goesL_ (some 26) rfl rfl Tryz.func127 (by kernel_rfl) rfl #[.int .u8 (bt a0 x20_2)] rfl aG ?_; (with_reducible refine (val_small.calls (bt a0 x20_2) false _ A13.out).mono ?_); rintro e w' ⟨rfl, ⟨nd, rfl⟩⟩; refine ⟨_, rfl, ?_⟩; have p15 : 0 ≤ (x20_2 : Int) := of_decide_eq_true (by first | (with_reducible assumption) | assumption); have q15 : x20_2 < (a0.size : Int) := of_decide_eq_true (by first | (with_reducible assumption) | assumption); have hx15 := bt_at a0 x20_2; replace p15 := eq_true p15; replace q15 := eq_true q15) | (go_at_call 128; (with_reducible refine (val_large.calls (bt a0 x20_2) false _ A16.out).mono ?_); rintro e w' ⟨rfl, ⟨nd, rfl⟩⟩; have p18 : 0 ≤ (x20_2 : Int) := of_decide_eq_true (by first | (with_reducible assumption) | assumption); have q18 : x20_2 < (a0.size : Int) := of_decide_eq_true (by first | (with_reducible assumption) | assumption); have hx18 := bt_at a0 x20_2; replace p18 := eq_true p18; replace q18 := eq_true q18) | (go_at_call 129; (with_reducible refine (val_digit.calls (bt a0 x20_2) false _ A19.out).mono ?_); rintro e w' ⟨rfl, ⟨nd, rfl⟩⟩; have p21 : 0 ≤ (x20_2 : Int) := of_decide_eq_true (by first | (with_reducible assumption) | assumption); have q21 : x20_2 < (a0.size : Int) := of_decide_eq_true (by first | (with_reducible assumption) | assumption); have hx21 := bt_at a0 x20_2; replace p21 := eq_true p21; replace q21 := eq_true q21))
             go_ret
             exact drz
        ·rw [if_neg c11] at H
         exact absurd H (by simp)
       ·rw [if_neg c10] at H
        exact absurd H (by simp)
      ·rw [if_neg c9] at H
       have c9b0 : decide (x20_2 < (a0.size : Int)) = false := decide_eq_false c9
       clear c9
       obtain rfl := Option.some.inj H
       go_wp2
       go_ret
       exact drz
def val_plain.l0 : Nat → ByteArray → Int → Int → Option (Bool)
 | 0, _, _, _ => none
 | k + 1, x0, x5, x6 => if x6 < x5 then (if 0 ≤ x6 then (if x6 < (x0.size : Int) then (if (bt x0 x6) < 32 then (some false) else (if (bt x0 x6) > 126 then (some false) else (val_plain.l0 k x0 x5 (wrap64 (x6 + 1))))) else (none)) else (none)) else (some (decide ((x0.size : Int) ≤ 60)))
def val_plain.f (k : Nat) (a0 : ByteArray) : Option (Bool) := val_plain.l0 k a0 (a0.size : Int) 0
set_option maxHeartbeats 8000000 in
set_option maxRecDepth 100000 in
theorem val_plain.calls (k : Nat) (a0 : ByteArray) (r : Bool) (w : World) (h : val_plain.f k a0 = some r) :
  Calls Tryz.prog 113 #[.string a0] w fun e w' => e = .returned (.bool r) ∧ Drawn0 w w' := by
 have H : (val_plain.l0 k a0 (a0.size : Int) 0) = some r := h
 clear h
 have H' := Aside0.mk H
 clear H
 go_enter Tryz.func113, Tryz.ntmps113
 go_wp2
 go_loopg [6] k (fun kq v6 w' => ∃ (x6_1 : Int), v6 = .int .i64 x6_1 ∧ Aside0 (val_plain.l0 kq a0 (a0.size : Int) x6_1 = some r) ∧ Aside0 (kq ≤ k) ∧ Drawn0 w w')
 case atStart => exact ⟨(0), (by first | rfl | (simp; done) | (simp [*]; done)), H', ⟨Nat.le_refl _⟩, by repeat (first | exact Drawn0.refl _ | apply Drawn0.step)⟩
 case round =>
  clear H'
  (try clear c1)
  obtain ⟨x6_1, rfl, HA, HK1, ⟨m1, rfl⟩⟩ := hrel
  cases gk with
  | zero => exact absurd HA.out (by simp [val_plain.l0])
  | succ k1 =>
   have H := HA.out
   clear HA
   simp only [val_plain.l0] at H
   by_cases c2 : x6_1 < (a0.size : Int)
   ·rw [if_pos c2] at H
    have c2b0 : decide (x6_1 < (a0.size : Int)) = true := decide_eq_true c2
    clear c2
    by_cases c3 : 0 ≤ x6_1
    ·rw [if_pos c3] at H
     have c3b0 : decide (0 ≤ x6_1) = true := decide_eq_true c3
     clear c3
     by_cases c4 : x6_1 < (a0.size : Int)
     ·rw [if_pos c4] at H
      have c4b0 : decide (x6_1 < (a0.size : Int)) = true := decide_eq_true c4
      clear c4
      by_cases c6 : (bt a0 x6_1) < 32
      ·rw [if_pos c6] at H
       have c6b0 : decide ((bt a0 x6_1) < 32) = true := decide_eq_true c6
       clear c6
       obtain rfl := Option.some.inj H
       have p5 : 0 ≤ (x6_1 : Int) := of_decide_eq_true (by first | (with_reducible assumption) | assumption)
       have q5 : x6_1 < (a0.size : Int) := of_decide_eq_true (by first | (with_reducible assumption) | assumption)
       have hx5 := bt_at a0 x6_1
       replace p5 := eq_true p5
       replace q5 := eq_true q5
       go_wp2
       go_ret
       exact drz
      ·rw [if_neg c6] at H
       have c6b0 : decide ((bt a0 x6_1) < 32) = false := decide_eq_false c6
       clear c6
       by_cases c8 : (bt a0 x6_1) > 126
       ·rw [if_pos c8] at H
        have c8b0 : decide (126 < (bt a0 x6_1)) = true := decide_eq_true c8
        clear c8
        obtain rfl := Option.some.inj H
        have p5 : 0 ≤ (x6_1 : Int) := of_decide_eq_true (by first | (with_reducible assumption) | assumption)
        have q5 : x6_1 < (a0.size : Int) := of_decide_eq_true (by first | (with_reducible assumption) | assumption)
        have hx5 := bt_at a0 x6_1
        replace p5 := eq_true p5
        replace q5 := eq_true q5
        have p7 : 0 ≤ (x6_1 : Int) := of_decide_eq_true (by first | (with_reducible assumption) | assumption)
        have q7 : x6_1 < (a0.size : Int) := of_decide_eq_true (by first | (with_reducible assumption) | assumption)
        have hx7 := bt_at a0 x6_1
        replace p7 := eq_true p7
        replace q7 := eq_true q7
        go_wp2
        go_ret
        exact drz
       ·rw [if_neg c8] at H
        have c8b0 : decide (126 < (bt a0 x6_1)) = false := decide_eq_false c8
        clear c8
        have H' := Aside0.mk H
        clear H
        have p5 : 0 ≤ (x6_1 : Int) := of_decide_eq_true (by first | (with_reducible assumption) | assumption)
        have q5 : x6_1 < (a0.size : Int) := of_decide_eq_true (by first | (with_reducible assumption) | assumption)
        have hx5 := bt_at a0 x6_1
        replace p5 := eq_true p5
        replace q5 := eq_true q5
        have p7 : 0 ≤ (x6_1 : Int) := of_decide_eq_true (by first | (with_reducible assumption) | assumption)
        have q7 : x6_1 < (a0.size : Int) := of_decide_eq_true (by first | (with_reducible assumption) | assumption)
        have hx7 := bt_at a0 x6_1
        replace p7 := eq_true p7
        replace q7 := eq_true q7
        go_wp2
        go_roundg k1
        case measure => have := HK1.out; omega
        case rel => exact ⟨(wrap64 (x6_1 + 1)), (by first | rfl | (simp; done) | (simp [*]; done)), H', ⟨by have := HK1.out; omega⟩, by repeat (first | exact Drawn0.refl _ | apply Drawn0.step)⟩
     ·rw [if_neg c4] at H
      exact absurd H (by simp)
    ·rw [if_neg c3] at H
     exact absurd H (by simp)
   ·rw [if_neg c2] at H
    have c2b0 : decide (x6_1 < (a0.size : Int)) = false := decide_eq_false c2
    clear c2
    obtain rfl := Option.some.inj H
    go_wp2
    go_ret
    exact drz
def val_Check.f (k : Nat) (a0_0 : Int) (a0_1 : Int) (a0_2 : ByteArray) : Option (Int) := if a0_0 = 1 then (if a0_1 ≥ (-4611686018427387904) then (if a0_1 ≤ 4611686018427387904 then (if (a0_2.toList = ([] : List UInt8)) then (some 0) else (some 1)) else (some 1)) else (some 1)) else (if a0_0 = 2 then (if a0_1 = 0 then ((val_symbol.f k a0_2).bind fun t119 => (if t119 = true then (some 0) else (some 1))) else (some 1)) else (if a0_0 = 3 then (if a0_1 = 0 then ((val_plain.f k a0_2).bind fun t120 => (if t120 = true then (some 0) else (some 1))) else (some 1)) else (some 1)))
set_option maxHeartbeats 8000000 in
set_option maxRecDepth 100000 in
theorem val_Check.calls (k : Nat) (a0_0 : Int) (a0_1 : Int) (a0_2 : ByteArray) (r : Int) (w : World) (h : val_Check.f k a0_0 a0_1 a0_2 = some r) :
  Calls Tryz.prog 92 #[.agg #[.int .i64 a0_0, .int .i64 a0_1, .string a0_2]] w fun e w' => e = .returned (.int .i64 r) ∧ Below w.heap.size w w' := by
 have hu64 := Tryz.underlying64
 have HB := Aside0.mk (Below.refl w.heap.size w)
 have H : (if a0_0 = 1 then (if a0_1 ≥ (-4611686018427387904) then (if a0_1 ≤ 4611686018427387904 then (if (a0_2.toList = ([] : List UInt8)) then (some 0) else (some 1)) else (some 1)) else (some 1)) else (if a0_0 = 2 then (if a0_1 = 0 then ((val_symbol.f k a0_2).bind fun t119 => (if t119 = true then (some 0) else (some 1))) else (some 1)) else (if a0_0 = 3 then (if a0_1 = 0 then ((val_plain.f k a0_2).bind fun t120 => (if t120 = true then (some 0) else (some 1))) else (some 1)) else (some 1)))) = some r := h
 clear h
 by_cases c2 : a0_0 = 1
 ·rw [if_pos c2] at H
  have c2b0 : (a0_0 == 1) = true := beq_iff_eq.mpr c2
  have c2b1 : (a0_0 != 1) = false := bne_eq_false_iff_eq.mpr c2
  clear c2
  by_cases c3 : a0_1 ≥ (-4611686018427387904)
  ·rw [if_pos c3] at H
   have c3b0 : decide ((-4611686018427387904) ≤ a0_1) = true := decide_eq_true c3
   clear c3
   by_cases c4 : a0_1 ≤ 4611686018427387904
   ·rw [if_pos c4] at H
    have c4b0 : decide (a0_1 ≤ 4611686018427387904) = true := decide_eq_true c4
    clear c4
    by_cases c5 : (a0_2.toList = ([] : List UInt8))
    ·rw [if_pos c5] at H
     have c5b0 : (a0_2.toList == ([] : List UInt8)) = true := beq_iff_eq.mpr c5
     have c5b1 : (a0_2.toList != ([] : List UInt8)) = false := bne_eq_false_iff_eq.mpr c5
     clear c5
     obtain rfl := Option.some.inj H
     go_enter Tryz.func92, Tryz.ntmps92
     go_wp2_with (first | ((with_reducible refine gate_dst (N := 1) rfl ?_); refine bE (N := 1) (cs := #[.int .i64 a0_0, .int .i64 a0_1, .string a0_2]) (t := 64) ?_; intro gb118 hg w6 hbox hb; have n0_ := Aside0.mk (below_step bB0 hb); have n1_ := Aside0.mk (hbox); have n2_ := Aside0.mk ((by rw [hg]; exact (below_size bB0) : w.heap.size ≤ gb118)); have n3_ := Aside0.mk ((by rw [hg]; exact (below_size bB0) : w.heap.size ≤ gb118)); clear HB; have HB := n0_; have BK118 := n1_; have GW118 := n2_; have GE118 := n3_; clear n0_ n1_ n2_ n3_; clear hb hbox hg; have hcz7_0 : w6.cell? ⟨gb118, 0, none⟩ = some (.int .i64 a0_0) := (blk_cell BK118.out 0).trans rfl; have hcz7_1 : w6.cell? ⟨gb118, 1, none⟩ = some (.int .i64 a0_1) := (blk_cell BK118.out 1).trans rfl; have hcz7_2 : w6.cell? ⟨gb118, 2, none⟩ = some (.string a0_2) := (blk_cell BK118.out 2).trans rfl; have hfz7_0 := blk_frozen BK118.out 0; have hfz7_1 := blk_frozen BK118.out 1; have hfz7_2 := blk_frozen BK118.out 2))
     go_ret
     exact ⟨eW, (bB1 GE118.out)⟩
    ·rw [if_neg c5] at H
     have c5b0 : (a0_2.toList == ([] : List UInt8)) = false := beq_eq_false_iff_ne.mpr c5
     have c5b1 : (a0_2.toList != ([] : List UInt8)) = true := bne_iff_ne.mpr c5
     obtain rfl := Option.some.inj H
     go_enter Tryz.func92, Tryz.ntmps92
     go_wp2_with (first | ((with_reducible refine gate_dst (N := 1) rfl ?_); refine bE (N := 1) (cs := #[.int .i64 a0_0, .int .i64 a0_1, .string a0_2]) (t := 64) ?_; intro gb118 hg w8 hbox hb; have n0_ := Aside0.mk (below_step bB0 hb); have n1_ := Aside0.mk (hbox); have n2_ := Aside0.mk ((by rw [hg]; exact (below_size bB0) : w.heap.size ≤ gb118)); have n3_ := Aside0.mk ((by rw [hg]; exact (below_size bB0) : w.heap.size ≤ gb118)); clear HB; have HB := n0_; have BK118 := n1_; have GW118 := n2_; have GE118 := n3_; clear n0_ n1_ n2_ n3_; clear hb hbox hg; have hcz9_0 : w8.cell? ⟨gb118, 0, none⟩ = some (.int .i64 a0_0) := (blk_cell BK118.out 0).trans rfl; have hcz9_1 : w8.cell? ⟨gb118, 1, none⟩ = some (.int .i64 a0_1) := (blk_cell BK118.out 1).trans rfl; have hcz9_2 : w8.cell? ⟨gb118, 2, none⟩ = some (.string a0_2) := (blk_cell BK118.out 2).trans rfl; have hfz9_0 := blk_frozen BK118.out 0; have hfz9_1 := blk_frozen BK118.out 1; have hfz9_2 := blk_frozen BK118.out 2))
     go_ret
     exact ⟨eW, (bB1 GE118.out)⟩
   ·rw [if_neg c4] at H
    have c4b0 : decide (a0_1 ≤ 4611686018427387904) = false := decide_eq_false c4
    clear c4
    obtain rfl := Option.some.inj H
    go_enter Tryz.func92, Tryz.ntmps92
    go_wp2_with (first | ((with_reducible refine gate_dst (N := 1) rfl ?_); refine bE (N := 1) (cs := #[.int .i64 a0_0, .int .i64 a0_1, .string a0_2]) (t := 64) ?_; intro gb118 hg w10 hbox hb; have n0_ := Aside0.mk (below_step bB0 hb); have n1_ := Aside0.mk (hbox); have n2_ := Aside0.mk ((by rw [hg]; exact (below_size bB0) : w.heap.size ≤ gb118)); have n3_ := Aside0.mk ((by rw [hg]; exact (below_size bB0) : w.heap.size ≤ gb118)); clear HB; have HB := n0_; have BK118 := n1_; have GW118 := n2_; have GE118 := n3_; clear n0_ n1_ n2_ n3_; clear hb hbox hg; have hcz11_0 : w10.cell? ⟨gb118, 0, none⟩ = some (.int .i64 a0_0) := (blk_cell BK118.out 0).trans rfl; have hcz11_1 : w10.cell? ⟨gb118, 1, none⟩ = some (.int .i64 a0_1) := (blk_cell BK118.out 1).trans rfl; have hcz11_2 : w10.cell? ⟨gb118, 2, none⟩ = some (.string a0_2) := (blk_cell BK118.out 2).trans rfl; have hfz11_0 := blk_frozen BK118.out 0; have hfz11_1 := blk_frozen BK118.out 1; have hfz11_2 := blk_frozen BK118.out 2))
    go_ret
    exact ⟨eW, (bB1 GE118.out)⟩
  ·rw [if_neg c3] at H
   have c3b0 : decide ((-4611686018427387904) ≤ a0_1) = false := decide_eq_false c3
   clear c3
   obtain rfl := Option.some.inj H
   go_enter Tryz.func92, Tryz.ntmps92
   go_wp2_with (first | ((with_reducible refine gate_dst (N := 1) rfl ?_); refine bE (N := 1) (cs := #[.int .i64 a0_0, .int .i64 a0_1, .string a0_2]) (t := 64) ?_; intro gb118 hg w12 hbox hb; have n0_ := Aside0.mk (below_step bB0 hb); have n1_ := Aside0.mk (hbox); have n2_ := Aside0.mk ((by rw [hg]; exact (below_size bB0) : w.heap.size ≤ gb118)); have n3_ := Aside0.mk ((by rw [hg]; exact (below_size bB0) : w.heap.size ≤ gb118)); clear HB; have HB := n0_; have BK118 := n1_; have GW118 := n2_; have GE118 := n3_; clear n0_ n1_ n2_ n3_; clear hb hbox hg; have hcz13_0 : w12.cell? ⟨gb118, 0, none⟩ = some (.int .i64 a0_0) := (blk_cell BK118.out 0).trans rfl; have hcz13_1 : w12.cell? ⟨gb118, 1, none⟩ = some (.int .i64 a0_1) := (blk_cell BK118.out 1).trans rfl; have hcz13_2 : w12.cell? ⟨gb118, 2, none⟩ = some (.string a0_2) := (blk_cell BK118.out 2).trans rfl; have hfz13_0 := blk_frozen BK118.out 0; have hfz13_1 := blk_frozen BK118.out 1; have hfz13_2 := blk_frozen BK118.out 2))
   go_ret
   exact ⟨eW, (bB1 GE118.out)⟩
 ·rw [if_neg c2] at H
  have c2b0 : (a0_0 == 1) = false := beq_eq_false_iff_ne.mpr c2
  have c2b1 : (a0_0 != 1) = true := bne_iff_ne.mpr c2
  by_cases c14 : a0_0 = 2
  ·rw [if_pos c14] at H
   have c14b0 : (a0_0 == 2) = true := beq_iff_eq.mpr c14
   have c14b1 : (a0_0 != 2) = false := bne_eq_false_iff_eq.mpr c14
   clear c14
   by_cases c15 : a0_1 = 0
   ·rw [if_pos c15] at H
    have c15b0 : (a0_1 == 0) = true := beq_iff_eq.mpr c15
    have c15b1 : (a0_1 != 0) = false := bne_eq_false_iff_eq.mpr c15
    clear c15
    replace H := Option.bind_eq_some_iff.mp H
    obtain ⟨t119, A160, H⟩ := H
    replace H : (if t119 = true then (some 0) else (some 1)) = some r := H
    have A16 := Aside0.mk A160
    clear A160
    by_cases c17 : t119 = true
    ·subst c17
     have H1 : (some 0) = some r := by rw [if_pos rfl] at H; exact H
     clear H
     have H := H1
     clear H1
     obtain rfl := Option.some.inj H
     go_enter Tryz.func92, Tryz.ntmps92
     go_wp2_with (first | ((with_reducible refine gate_dst (N := 1) rfl ?_); refine bE (N := 1) (cs := #[.int .i64 a0_0, .int .i64 a0_1, .string a0_2]) (t := 64) ?_; intro gb118 hg w18 hbox hb; have n0_ := Aside0.mk (below_step bB0 hb); have n1_ := Aside0.mk (hbox); have n2_ := Aside0.mk ((by rw [hg]; exact (below_size bB0) : w.heap.size ≤ gb118)); have n3_ := Aside0.mk ((by rw [hg]; exact (below_size bB0) : w.heap.size ≤ gb118)); clear HB; have HB := n0_; have BK118 := n1_; have GW118 := n2_; have GE118 := n3_; clear n0_ n1_ n2_ n3_; clear hb hbox hg; have hcz19_0 : w18.cell? ⟨gb118, 0, none⟩ = some (.int .i64 a0_0) := (blk_cell BK118.out 0).trans rfl; have hcz19_1 : w18.cell? ⟨gb118, 1, none⟩ = some (.int .i64 a0_1) := (blk_cell BK118.out 1).trans rfl; have hcz19_2 : w18.cell? ⟨gb118, 2, none⟩ = some (.string a0_2) := (blk_cell BK118.out 2).trans rfl; have hfz19_0 := blk_frozen BK118.out 0; have hfz19_1 := blk_frozen BK118.out 1; have hfz19_2 := blk_frozen BK118.out 2) | (go_at_call 112; (with_reducible refine (val_symbol.calls k a0_2 true _ A16.out).mono ?_); rintro e w' ⟨rfl, ⟨nd, rfl⟩⟩))
     go_ret
     exact ⟨eW, (bB1 GE118.out)⟩
    ·replace c17 := Bool.eq_false_iff.mpr c17
     subst c17
     have H1 : (some 1) = some r := by rw [if_neg (show ¬ (false = true) by decide)] at H; exact H
     clear H
     have H := H1
     clear H1
     obtain rfl := Option.some.inj H
     go_enter Tryz.func92, Tryz.ntmps92
     go_wp2_with (first | ((with_reducible refine gate_dst (N := 1) rfl ?_); refine bE (N := 1) (cs := #[.int .i64 a0_0, .int .i64 a0_1, .string a0_2]) (t := 64) ?_; intro gb118 hg w20 hbox hb; have n0_ := Aside0.mk (below_step bB0 hb); have n1_ := Aside0.mk (hbox); have n2_ := Aside0.mk ((by rw [hg]; exact (below_size bB0) : w.heap.size ≤ gb118)); have n3_ := Aside0.mk ((by rw [hg]; exact (below_size bB0) : w.heap.size ≤ gb118)); clear HB; have HB := n0_; have BK118 := n1_; have GW118 := n2_; have GE118 := n3_; clear n0_ n1_ n2_ n3_; clear hb hbox hg; have hcz21_0 : w20.cell? ⟨gb118, 0, none⟩ = some (.int .i64 a0_0) := (blk_cell BK118.out 0).trans rfl; have hcz21_1 : w20.cell? ⟨gb118, 1, none⟩ = some (.int .i64 a0_1) := (blk_cell BK118.out 1).trans rfl; have hcz21_2 : w20.cell? ⟨gb118, 2, none⟩ = some (.string a0_2) := (blk_cell BK118.out 2).trans rfl; have hfz21_0 := blk_frozen BK118.out 0; have hfz21_1 := blk_frozen BK118.out 1; have hfz21_2 := blk_frozen BK118.out 2) | (go_at_call 112; (with_reducible refine (val_symbol.calls k a0_2 false _ A16.out).mono ?_); rintro e w' ⟨rfl, ⟨nd, rfl⟩⟩))
     go_ret
     exact ⟨eW, (bB1 GE118.out)⟩
   ·rw [if_neg c15] at H
    have c15b0 : (a0_1 == 0) = false := beq_eq_false_iff_ne.mpr c15
    have c15b1 : (a0_1 != 0) = true := bne_iff_ne.mpr c15
    obtain rfl := Option.some.inj H
    go_enter Tryz.func92, Tryz.ntmps92
    go_wp2_with (first | ((with_reducible refine gate_dst (N := 1) rfl ?_); refine bE (N := 1) (cs := #[.int .i64 a0_0, .int .i64 a0_1, .string a0_2]) (t := 64) ?_; intro gb118 hg w22 hbox hb; have n0_ := Aside0.mk (below_step bB0 hb); have n1_ := Aside0.mk (hbox); have n2_ := Aside0.mk ((by rw [hg]; exact (below_size bB0) : w.heap.size ≤ gb118)); have n3_ := Aside0.mk ((by rw [hg]; exact (below_size bB0) : w.heap.size ≤ gb118)); clear HB; have HB := n0_; have BK118 := n1_; have GW118 := n2_; have GE118 := n3_; clear n0_ n1_ n2_ n3_; clear hb hbox hg; have hcz23_0 : w22.cell? ⟨gb118, 0, none⟩ = some (.int .i64 a0_0) := (blk_cell BK118.out 0).trans rfl; have hcz23_1 : w22.cell? ⟨gb118, 1, none⟩ = some (.int .i64 a0_1) := (blk_cell BK118.out 1).trans rfl; have hcz23_2 : w22.cell? ⟨gb118, 2, none⟩ = some (.string a0_2) := (blk_cell BK118.out 2).trans rfl; have hfz23_0 := blk_frozen BK118.out 0; have hfz23_1 := blk_frozen BK118.out 1; have hfz23_2 := blk_frozen BK118.out 2))
    go_ret
    exact ⟨eW, (bB1 GE118.out)⟩
  ·rw [if_neg c14] at H
   have c14b0 : (a0_0 == 2) = false := beq_eq_false_iff_ne.mpr c14
   have c14b1 : (a0_0 != 2) = true := bne_iff_ne.mpr c14
   by_cases c24 : a0_0 = 3
   ·rw [if_pos c24] at H
    have c24b0 : (a0_0 == 3) = true := beq_iff_eq.mpr c24
    have c24b1 : (a0_0 != 3) = false := bne_eq_false_iff_eq.mpr c24
    clear c24
    by_cases c25 : a0_1 = 0
    ·rw [if_pos c25] at H
     have c25b0 : (a0_1 == 0) = true := beq_iff_eq.mpr c25
     have c25b1 : (a0_1 != 0) = false := bne_eq_false_iff_eq.mpr c25
     clear c25
     replace H := Option.bind_eq_some_iff.mp H
     obtain ⟨t120, A260, H⟩ := H
     replace H : (if t120 = true then (some 0) else (some 1)) = some r := H
     have A26 := Aside0.mk A260
     clear A260
     by_cases c27 : t120 = true
     ·subst c27
      have H1 : (some 0) = some r := by rw [if_pos rfl] at H; exact H
      clear H
      have H := H1
      clear H1
      obtain rfl := Option.some.inj H
      go_enter Tryz.func92, Tryz.ntmps92
      go_wp2_with (first | ((with_reducible refine gate_dst (N := 1) rfl ?_); refine bE (N := 1) (cs := #[.int .i64 a0_0, .int .i64 a0_1, .string a0_2]) (t := 64) ?_; intro gb118 hg w28 hbox hb; have n0_ := Aside0.mk (below_step bB0 hb); have n1_ := Aside0.mk (hbox); have n2_ := Aside0.mk ((by rw [hg]; exact (below_size bB0) : w.heap.size ≤ gb118)); have n3_ := Aside0.mk ((by rw [hg]; exact (below_size bB0) : w.heap.size ≤ gb118)); clear HB; have HB := n0_; have BK118 := n1_; have GW118 := n2_; have GE118 := n3_; clear n0_ n1_ n2_ n3_; clear hb hbox hg; have hcz29_0 : w28.cell? ⟨gb118, 0, none⟩ = some (.int .i64 a0_0) := (blk_cell BK118.out 0).trans rfl; have hcz29_1 : w28.cell? ⟨gb118, 1, none⟩ = some (.int .i64 a0_1) := (blk_cell BK118.out 1).trans rfl; have hcz29_2 : w28.cell? ⟨gb118, 2, none⟩ = some (.string a0_2) := (blk_cell BK118.out 2).trans rfl; have hfz29_0 := blk_frozen BK118.out 0; have hfz29_1 := blk_frozen BK118.out 1; have hfz29_2 := blk_frozen BK118.out 2) | (go_at_call 113; (with_reducible refine (val_plain.calls k a0_2 true _ A26.out).mono ?_); rintro e w' ⟨rfl, ⟨nd, rfl⟩⟩))
      go_ret
      exact ⟨eW, (bB1 GE118.out)⟩
     ·replace c27 := Bool.eq_false_iff.mpr c27
      subst c27
      have H1 : (some 1) = some r := by rw [if_neg (show ¬ (false = true) by decide)] at H; exact H
      clear H
      have H := H1
      clear H1
      obtain rfl := Option.some.inj H
      go_enter Tryz.func92, Tryz.ntmps92
      go_wp2_with (first | ((with_reducible refine gate_dst (N := 1) rfl ?_); refine bE (N := 1) (cs := #[.int .i64 a0_0, .int .i64 a0_1, .string a0_2]) (t := 64) ?_; intro gb118 hg w30 hbox hb; have n0_ := Aside0.mk (below_step bB0 hb); have n1_ := Aside0.mk (hbox); have n2_ := Aside0.mk ((by rw [hg]; exact (below_size bB0) : w.heap.size ≤ gb118)); have n3_ := Aside0.mk ((by rw [hg]; exact (below_size bB0) : w.heap.size ≤ gb118)); clear HB; have HB := n0_; have BK118 := n1_; have GW118 := n2_; have GE118 := n3_; clear n0_ n1_ n2_ n3_; clear hb hbox hg; have hcz31_0 : w30.cell? ⟨gb118, 0, none⟩ = some (.int .i64 a0_0) := (blk_cell BK118.out 0).trans rfl; have hcz31_1 : w30.cell? ⟨gb118, 1, none⟩ = some (.int .i64 a0_1) := (blk_cell BK118.out 1).trans rfl; have hcz31_2 : w30.cell? ⟨gb118, 2, none⟩ = some (.string a0_2) := (blk_cell BK118.out 2).trans rfl; have hfz31_0 := blk_frozen BK118.out 0; have hfz31_1 := blk_frozen BK118.out 1; have hfz31_2 := blk_frozen BK118.out 2) | (go_at_call 113; (with_reducible refine (val_plain.calls k a0_2 false _ A26.out).mono ?_); rintro e w' ⟨rfl, ⟨nd, rfl⟩⟩))
      go_ret
      exact ⟨eW, (bB1 GE118.out)⟩
    ·rw [if_neg c25] at H
     have c25b0 : (a0_1 == 0) = false := beq_eq_false_iff_ne.mpr c25
     have c25b1 : (a0_1 != 0) = true := bne_iff_ne.mpr c25
     obtain rfl := Option.some.inj H
     go_enter Tryz.func92, Tryz.ntmps92
     go_wp2_with (first | ((with_reducible refine gate_dst (N := 1) rfl ?_); refine bE (N := 1) (cs := #[.int .i64 a0_0, .int .i64 a0_1, .string a0_2]) (t := 64) ?_; intro gb118 hg w32 hbox hb; have n0_ := Aside0.mk (below_step bB0 hb); have n1_ := Aside0.mk (hbox); have n2_ := Aside0.mk ((by rw [hg]; exact (below_size bB0) : w.heap.size ≤ gb118)); have n3_ := Aside0.mk ((by rw [hg]; exact (below_size bB0) : w.heap.size ≤ gb118)); clear HB; have HB := n0_; have BK118 := n1_; have GW118 := n2_; have GE118 := n3_; clear n0_ n1_ n2_ n3_; clear hb hbox hg; have hcz33_0 : w32.cell? ⟨gb118, 0, none⟩ = some (.int .i64 a0_0) := (blk_cell BK118.out 0).trans rfl; have hcz33_1 : w32.cell? ⟨gb118, 1, none⟩ = some (.int .i64 a0_1) := (blk_cell BK118.out 1).trans rfl; have hcz33_2 : w32.cell? ⟨gb118, 2, none⟩ = some (.string a0_2) := (blk_cell BK118.out 2).trans rfl; have hfz33_0 := blk_frozen BK118.out 0; have hfz33_1 := blk_frozen BK118.out 1; have hfz33_2 := blk_frozen BK118.out 2))
     go_ret
     exact ⟨eW, (bB1 GE118.out)⟩
   ·rw [if_neg c24] at H
    have c24b0 : (a0_0 == 3) = false := beq_eq_false_iff_ne.mpr c24
    have c24b1 : (a0_0 != 3) = true := bne_iff_ne.mpr c24
    obtain rfl := Option.some.inj H
    go_enter Tryz.func92, Tryz.ntmps92
    go_wp2_with (first | ((with_reducible refine gate_dst (N := 1) rfl ?_); refine bE (N := 1) (cs := #[.int .i64 a0_0, .int .i64 a0_1, .string a0_2]) (t := 64) ?_; intro gb118 hg w34 hbox hb; have n0_ := Aside0.mk (below_step bB0 hb); have n1_ := Aside0.mk (hbox); have n2_ := Aside0.mk ((by rw [hg]; exact (below_size bB0) : w.heap.size ≤ gb118)); have n3_ := Aside0.mk ((by rw [hg]; exact (below_size bB0) : w.heap.size ≤ gb118)); clear HB; have HB := n0_; have BK118 := n1_; have GW118 := n2_; have GE118 := n3_; clear n0_ n1_ n2_ n3_; clear hb hbox hg; have hcz35_0 : w34.cell? ⟨gb118, 0, none⟩ = some (.int .i64 a0_0) := (blk_cell BK118.out 0).trans rfl; have hcz35_1 : w34.cell? ⟨gb118, 1, none⟩ = some (.int .i64 a0_1) := (blk_cell BK118.out 1).trans rfl; have hcz35_2 : w34.cell? ⟨gb118, 2, none⟩ = some (.string a0_2) := (blk_cell BK118.out 2).trans rfl; have hfz35_0 := blk_frozen BK118.out 0; have hfz35_1 := blk_frozen BK118.out 1; have hfz35_2 := blk_frozen BK118.out 2))
    go_ret
    exact ⟨eW, (bB1 GE118.out)⟩
def subst_letter.f (a0 : Int) : Option (Bool) := if a0 ≥ 97 then (if a0 ≤ 122 then (some true) else (if a0 ≥ 65 then (if a0 ≤ 90 then (some true) else (if a0 ≥ 48 then (if a0 ≤ 57 then (some true) else (some (a0 == 95))) else (some (a0 == 95)))) else (if a0 ≥ 48 then (if a0 ≤ 57 then (some true) else (some (a0 == 95))) else (some (a0 == 95))))) else (if a0 ≥ 65 then (if a0 ≤ 90 then (some true) else (if a0 ≥ 48 then (if a0 ≤ 57 then (some true) else (some (a0 == 95))) else (some (a0 == 95)))) else (if a0 ≥ 48 then (if a0 ≤ 57 then (some true) else (some (a0 == 95))) else (some (a0 == 95))))
set_option maxHeartbeats 8000000 in
set_option maxRecDepth 100000 in
theorem subst_letter.calls (a0 : Int) (r : Bool) (w : World) (h : subst_letter.f a0 = some r) :
  Calls Tryz.prog 119 #[.int .u8 a0] w fun e w' => e = .returned (.bool r) ∧ Drawn0 w w' := by
 have H : (if a0 ≥ 97 then (if a0 ≤ 122 then (some true) else (if a0 ≥ 65 then (if a0 ≤ 90 then (some true) else (if a0 ≥ 48 then (if a0 ≤ 57 then (some true) else (some (a0 == 95))) else (some (a0 == 95)))) else (if a0 ≥ 48 then (if a0 ≤ 57 then (some true) else (some (a0 == 95))) else (some (a0 == 95))))) else (if a0 ≥ 65 then (if a0 ≤ 90 then (some true) else (if a0 ≥ 48 then (if a0 ≤ 57 then (some true) else (some (a0 == 95))) else (some (a0 == 95)))) else (if a0 ≥ 48 then (if a0 ≤ 57 then (some true) else (some (a0 == 95))) else (some (a0 == 95))))) = some r := h
 clear h
 by_cases c2 : a0 ≥ 97
 ·rw [if_pos c2] at H
  have c2b0 : decide (97 ≤ a0) = true := decide_eq_true c2
  clear c2
  by_cases c3 : a0 ≤ 122
  ·rw [if_pos c3] at H
   have c3b0 : decide (a0 ≤ 122) = true := decide_eq_true c3
   clear c3
   obtain rfl := Option.some.inj H
   go_enter Tryz.func119, Tryz.ntmps119
   go_wp2
   go_ret
   exact drz
  ·rw [if_neg c3] at H
   have c3b0 : decide (a0 ≤ 122) = false := decide_eq_false c3
   clear c3
   by_cases c4 : a0 ≥ 65
   ·rw [if_pos c4] at H
    have c4b0 : decide (65 ≤ a0) = true := decide_eq_true c4
    clear c4
    by_cases c5 : a0 ≤ 90
    ·rw [if_pos c5] at H
     have c5b0 : decide (a0 ≤ 90) = true := decide_eq_true c5
     clear c5
     obtain rfl := Option.some.inj H
     go_enter Tryz.func119, Tryz.ntmps119
     go_wp2
     go_ret
     exact drz
    ·rw [if_neg c5] at H
     have c5b0 : decide (a0 ≤ 90) = false := decide_eq_false c5
     clear c5
     by_cases c6 : a0 ≥ 48
     ·rw [if_pos c6] at H
      have c6b0 : decide (48 ≤ a0) = true := decide_eq_true c6
      clear c6
      by_cases c7 : a0 ≤ 57
      ·rw [if_pos c7] at H
       have c7b0 : decide (a0 ≤ 57) = true := decide_eq_true c7
       clear c7
       obtain rfl := Option.some.inj H
       go_enter Tryz.func119, Tryz.ntmps119
       go_wp2
       go_ret
       exact drz
      ·rw [if_neg c7] at H
       have c7b0 : decide (a0 ≤ 57) = false := decide_eq_false c7
       clear c7
       obtain rfl := Option.some.inj H
       go_enter Tryz.func119, Tryz.ntmps119
       go_wp2
       go_ret
       exact drz
     ·rw [if_neg c6] at H
      have c6b0 : decide (48 ≤ a0) = false := decide_eq_false c6
      clear c6
      obtain rfl := Option.some.inj H
      go_enter Tryz.func119, Tryz.ntmps119
      go_wp2
      go_ret
      exact drz
   ·rw [if_neg c4] at H
    have c4b0 : decide (65 ≤ a0) = false := decide_eq_false c4
    clear c4
    by_cases c8 : a0 ≥ 48
    ·rw [if_pos c8] at H
     have c8b0 : decide (48 ≤ a0) = true := decide_eq_true c8
     clear c8
     by_cases c9 : a0 ≤ 57
     ·rw [if_pos c9] at H
      have c9b0 : decide (a0 ≤ 57) = true := decide_eq_true c9
      clear c9
      obtain rfl := Option.some.inj H
      go_enter Tryz.func119, Tryz.ntmps119
      go_wp2
      go_ret
      exact drz
     ·rw [if_neg c9] at H
      have c9b0 : decide (a0 ≤ 57) = false := decide_eq_false c9
      clear c9
      obtain rfl := Option.some.inj H
      go_enter Tryz.func119, Tryz.ntmps119
      go_wp2
      go_ret
      exact drz
    ·rw [if_neg c8] at H
     have c8b0 : decide (48 ≤ a0) = false := decide_eq_false c8
     clear c8
     obtain rfl := Option.some.inj H
     go_enter Tryz.func119, Tryz.ntmps119
     go_wp2
     go_ret
     exact drz
 ·rw [if_neg c2] at H
  have c2b0 : decide (97 ≤ a0) = false := decide_eq_false c2
  clear c2
  by_cases c10 : a0 ≥ 65
  ·rw [if_pos c10] at H
   have c10b0 : decide (65 ≤ a0) = true := decide_eq_true c10
   clear c10
   by_cases c11 : a0 ≤ 90
   ·rw [if_pos c11] at H
    have c11b0 : decide (a0 ≤ 90) = true := decide_eq_true c11
    clear c11
    obtain rfl := Option.some.inj H
    go_enter Tryz.func119, Tryz.ntmps119
    go_wp2
    go_ret
    exact drz
   ·rw [if_neg c11] at H
    have c11b0 : decide (a0 ≤ 90) = false := decide_eq_false c11
    clear c11
    by_cases c12 : a0 ≥ 48
    ·rw [if_pos c12] at H
     have c12b0 : decide (48 ≤ a0) = true := decide_eq_true c12
     clear c12
     by_cases c13 : a0 ≤ 57
     ·rw [if_pos c13] at H
      have c13b0 : decide (a0 ≤ 57) = true := decide_eq_true c13
      clear c13
      obtain rfl := Option.some.inj H
      go_enter Tryz.func119, Tryz.ntmps119
      go_wp2
      go_ret
      exact drz
     ·rw [if_neg c13] at H
      have c13b0 : decide (a0 ≤ 57) = false := decide_eq_false c13
      clear c13
      obtain rfl := Option.some.inj H
      go_enter Tryz.func119, Tryz.ntmps119
      go_wp2
      go_ret
      exact drz
    ·rw [if_neg c12] at H
     have c12b0 : decide (48 ≤ a0) = false := decide_eq_false c12
     clear c12
     obtain rfl := Option.some.inj H
     go_enter Tryz.func119, Tryz.ntmps119
     go_wp2
     go_ret
     exact drz
  ·rw [if_neg c10] at H
   have c10b0 : decide (65 ≤ a0) = false := decide_eq_false c10
   clear c10
   by_cases c14 : a0 ≥ 48
   ·rw [if_pos c14] at H
    have c14b0 : decide (48 ≤ a0) = true := decide_eq_true c14
    clear c14
    by_cases c15 : a0 ≤ 57
    ·rw [if_pos c15] at H
     have c15b0 : decide (a0 ≤ 57) = true := decide_eq_true c15
     clear c15
     obtain rfl := Option.some.inj H
     go_enter Tryz.func119, Tryz.ntmps119
     go_wp2
     go_ret
     exact drz
    ·rw [if_neg c15] at H
     have c15b0 : decide (a0 ≤ 57) = false := decide_eq_false c15
     clear c15
     obtain rfl := Option.some.inj H
     go_enter Tryz.func119, Tryz.ntmps119
     go_wp2
     go_ret
     exact drz
   ·rw [if_neg c14] at H
    have c14b0 : decide (48 ≤ a0) = false := decide_eq_false c14
    clear c14
    obtain rfl := Option.some.inj H
    go_enter Tryz.func119, Tryz.ntmps119
    go_wp2
    go_ret
    exact drz
end Go.Proofs.YtghommaokdhjmaaGreat.P
/- What val.Check answers, as a plain function: the printed function answers it from some number of rounds on. -/
namespace Go.Proofs.YtghommaokdhjmaaGreat.PSpec
open Go.RowKit Go.Proofs.YtghommaokdhjmaaGreatW.PrintWords Go.Proofs.YtghommaokdhjmaaGreatW.PrintLast Gate P
def letP (c : Int) : Bool := (subst_letter.f c).getD false
theorem letP_eq (c : Int) : subst_letter.f c = some (letP c) := by
 unfold letP subst_letter.f
 repeat' split
 all_goals rfl
def smallP (c : Int) : Bool := (val_small.f c).getD false
theorem smallP_eq (c : Int) : val_small.f c = some (smallP c) := by
 unfold smallP val_small.f
 split <;> rfl
def largeP (c : Int) : Bool := (val_large.f c).getD false
theorem largeP_eq (c : Int) : val_large.f c = some (largeP c) := by
 unfold largeP val_large.f
 split <;> rfl
def digitP (c : Int) : Bool := (val_digit.f c).getD false
theorem digitP_eq (c : Int) : val_digit.f c = some (digitP c) := by
 unfold digitP val_digit.f
 split <;> rfl
def allFrom (t : Nat → Bool) : Nat → Nat → Bool
 | 0, _ => true
 | m + 1, i => t i && allFrom t m (i + 1)
theorem w64 {n i : Nat} (hn : n ≤ 1000000) (hi : i < n) : wrap64 ((i : Int) + 1) = ((i + 1 : Nat) : Int) := by unfold wrap64; omega
def varAll (s : ByteArray) : Bool := allFrom (fun i => letP (bt s i)) s.size 0
def varP (s : ByteArray) : Bool := decide (1 ≤ s.size) && decide (s.size ≤ 24) && decide (65 ≤ bt s 0) && decide (bt s 0 ≤ 90) && varAll s
def symT (s : ByteArray) (i : Nat) : Bool := smallP (bt s i) || largeP (bt s i) || digitP (bt s i) || decide (bt s i = 95)
theorem sym_loop (s : ByteArray) (hs : s.size ≤ 1000000) : ∀ (m i K : Nat), i + m = s.size → m < K → val_symbol.l0 K s (s.size : Int) i = some (allFrom (symT s) m i) := by
 intro m
 induction m with
 | zero =>
  intro i K h hK
  obtain ⟨K, rfl⟩ : ∃ q, K = q + 1 := ⟨K - 1, by omega⟩
  rw [val_symbol.l0, if_neg (by omega)]; rfl
 | succ m ih =>
  intro i K h hK
  obtain ⟨K, rfl⟩ : ∃ q, K = q + 1 := ⟨K - 1, by omega⟩
  rw [val_symbol.l0, if_pos (by omega), if_pos (by omega), if_pos (by omega), smallP_eq, Option.bind_some, largeP_eq, Option.bind_some, digitP_eq, Option.bind_some, w64 hs (show i < s.size by omega), ih (i + 1) K (by omega) (by omega), allFrom]
  by_cases h5 : bt s i = 95 <;> cases h2 : smallP (bt s i) <;> cases h3 : largeP (bt s i) <;> cases h4 : digitP (bt s i) <;> simp [symT, h2, h3, h4, h5]
def symP (s : ByteArray) : Bool := decide (1 ≤ s.size) && decide (s.size ≤ 24) && smallP (bt s 0) && allFrom (symT s) s.size 0
theorem symP_eq (s : ByteArray) (K : Nat) (hK : 30 ≤ K) : val_symbol.f K s = some (symP s) := by
 have jt : val_symbol.j0 K s true = some false := by
  obtain ⟨K, rfl⟩ : ∃ q, K = q + 1 := ⟨K - 1, by omega⟩
  rw [val_symbol.j0, if_pos rfl]
 unfold val_symbol.f symP
 by_cases h1 : s.size < 1
 ·rw [if_pos (by omega), jt]; simp [show ¬ 1 ≤ s.size by omega]
 ·rw [if_neg (by omega)]
  by_cases h2 : s.size > 24
  ·rw [if_pos (by omega), jt]; simp [show ¬ s.size ≤ 24 by omega]
  ·rw [if_neg (by omega), if_pos (by omega), smallP_eq, Option.bind_some]
   cases h4 : smallP (bt s 0)
   ·rw [Bool.not_false, jt]; simp
   ·obtain ⟨K, rfl⟩ : ∃ q, K = q + 1 := ⟨K - 1, by omega⟩
    rw [Bool.not_true, val_symbol.j0, if_neg (by simp), show (0 : Int) = ((0 : Nat) : Int) from rfl, sym_loop s (by omega) s.size 0 K (by omega) (by omega)]
    simp [show 1 ≤ s.size by omega, show s.size ≤ 24 by omega]
def plainT (s : ByteArray) (i : Nat) : Bool := decide (32 ≤ bt s i) && decide (bt s i ≤ 126)
theorem plain_loop (s : ByteArray) (hs : s.size ≤ 1000000) : ∀ (m i K : Nat), i + m = s.size → m < K → val_plain.l0 K s (s.size : Int) i = some (allFrom (plainT s) m i && decide (s.size ≤ 60)) := by
 intro m
 induction m with
 | zero =>
  intro i K h hK
  obtain ⟨K, rfl⟩ : ∃ q, K = q + 1 := ⟨K - 1, by omega⟩
  rw [val_plain.l0, if_neg (by omega), allFrom, Bool.true_and]
  congr 1
  exact decide_eq_decide.2 (by omega)
 | succ m ih =>
  intro i K h hK
  obtain ⟨K, rfl⟩ : ∃ q, K = q + 1 := ⟨K - 1, by omega⟩
  rw [val_plain.l0, if_pos (by omega), if_pos (by omega), if_pos (by omega), w64 hs (show i < s.size by omega), ih (i + 1) K (by omega) (by omega), allFrom]
  by_cases h1 : bt s i < 32
  ·rw [if_pos h1]; simp [plainT, show ¬ 32 ≤ bt s i by omega]
  ·rw [if_neg h1]
   by_cases h2 : bt s i > 126
   ·rw [if_pos h2]; simp [plainT, show ¬ bt s i ≤ 126 by omega]
   ·rw [if_neg h2]; simp [plainT, show 32 ≤ bt s i by omega, show bt s i ≤ 126 by omega]
def plainP (s : ByteArray) : Bool := allFrom (plainT s) s.size 0 && decide (s.size ≤ 60)
theorem plainP_eq (s : ByteArray) (hs : s.size ≤ 1000000) (K : Nat) (hK : s.size < K) : val_plain.f K s = some (plainP s) := by
 unfold val_plain.f
 rw [show (0 : Int) = ((0 : Nat) : Int) from rfl, plain_loop s hs s.size 0 K (by omega) (by omega)]
 rfl
def valP (a b : Int) (s : ByteArray) : Int :=
 if a = 1 then (if b ≥ (-4611686018427387904) then (if b ≤ 4611686018427387904 then (if s.toList = ([] : List UInt8) then 0 else 1) else 1) else 1)
 else if a = 2 then (if b = 0 then (if symP s = true then 0 else 1) else 1)
 else if a = 3 then (if b = 0 then (if plainP s = true then 0 else 1) else 1) else 1
theorem valP_eq (a b : Int) (s : ByteArray) (hs : s.size ≤ 1000000) (K : Nat) (hK : s.size + 40 ≤ K) : val_Check.f K a b s = some (valP a b s) := by
 unfold val_Check.f valP
 rw [symP_eq s K (by omega), plainP_eq s hs K (by omega)]
 simp only [Option.bind_some]
 repeat' split
 all_goals rfl
end Go.Proofs.YtghommaokdhjmaaGreat.PSpec
namespace Go.Proofs.YtghommaokdhjmaaGreat.P
open Go.RowKit Go.Proofs.YtghommaokdhjmaaGreatW.PrintWords Go.Proofs.YtghommaokdhjmaaGreatW.PrintLast Gate
mutual
def subst_Var.j0 : Nat → ByteArray → Bool → Option (Bool)
 | 0, _, _ => none
 | k + 1, x0, x21 => if x21 = true then (some false) else (subst_Var.l0 k x0 (x0.size : Int) 0)
def subst_Var.l0 : Nat → ByteArray → Int → Int → Option (Bool)
 | 0, _, _, _ => none
 | k + 1, x0, x23, x24 => if x24 < x23 then (if 0 ≤ x24 then (if x24 < (x0.size : Int) then ((subst_letter.f (bt x0 x24)).bind fun t182 => (if t182 = true then (subst_Var.l0 k x0 x23 (wrap64 (x24 + 1))) else (some false))) else (none)) else (none)) else (some true)
end
def subst_Var.f (k : Nat) (a0 : ByteArray) : Option (Bool) := if (a0.size : Int) < 1 then (subst_Var.j0 k a0 true) else (if (a0.size : Int) > 24 then (subst_Var.j0 k a0 true) else (if 0 < (a0.size : Int) then (if (bt a0 0) < 65 then (subst_Var.j0 k a0 true) else (subst_Var.j0 k a0 (decide ((bt a0 0) > 90)))) else (none)))
set_option maxHeartbeats 8000000 in
set_option maxRecDepth 100000 in
theorem subst_Var.calls (k : Nat) (a0 : ByteArray) (r : Bool) (w : World) (h : subst_Var.f k a0 = some r) :
  Calls Tryz.prog 96 #[.string a0] w fun e w' => e = .returned (.bool r) ∧ Drawn0 w w' := by
 have H : (if (a0.size : Int) < 1 then (subst_Var.j0 k a0 true) else (if (a0.size : Int) > 24 then (subst_Var.j0 k a0 true) else (if 0 < (a0.size : Int) then (if (bt a0 0) < 65 then (subst_Var.j0 k a0 true) else (subst_Var.j0 k a0 (decide ((bt a0 0) > 90)))) else (none)))) = some r := h
 clear h
 have HC2 := Aside0.mk H
 clear H
 go_enter Tryz.func96, Tryz.ntmps96
 go_upto_region 1 with (fail)
 go_cut [21] (fun v21 wc => ∃ (kq : Nat) (x21_1 : Bool), v21 = .bool x21_1 ∧ Aside0 (subst_Var.j0 kq a0 x21_1 = some r) ∧ Aside0 (kq ≤ k) ∧ Drawn0 w wc)
 case first =>
  have H := HC2.out
  clear HC2
  by_cases c3 : (a0.size : Int) < 1
  ·rw [if_pos c3] at H
   have c3b0 : decide ((a0.size : Int) < 1) = true := decide_eq_true c3
   have c3b1 : decide (a0.size < 1) = true := decide_eq_true (by omega)
   clear c3
   (first | rw [c3b0] | (simp only [i64_w, i32_w]; rw [c3b0]) | skip)
   have H' := Aside0.mk H
   clear H
   go_wp2
   go_meet
   case rel => exact ⟨_, (true), (by first | rfl | (simp; done) | (simp [*]; done)), H', ⟨by first | omega | exact Nat.le_refl _⟩, by repeat (first | exact Drawn0.refl _ | apply Drawn0.step)⟩
  ·rw [if_neg c3] at H
   have c3b0 : decide ((a0.size : Int) < 1) = false := decide_eq_false c3
   have c3b1 : decide (a0.size < 1) = false := decide_eq_false (by omega)
   clear c3
   (first | rw [c3b0] | (simp only [i64_w, i32_w]; rw [c3b0]) | skip)
   by_cases c4 : (a0.size : Int) > 24
   ·rw [if_pos c4] at H
    have c4b0 : decide (24 < (a0.size : Int)) = true := decide_eq_true c4
    have c4b1 : decide (24 < a0.size) = true := decide_eq_true (by omega)
    clear c4
    have H' := Aside0.mk H
    clear H
    go_wp2
    go_meet
    case rel => exact ⟨_, (true), (by first | rfl | (simp; done) | (simp [*]; done)), H', ⟨by first | omega | exact Nat.le_refl _⟩, by repeat (first | exact Drawn0.refl _ | apply Drawn0.step)⟩
   ·rw [if_neg c4] at H
    have c4b0 : decide (24 < (a0.size : Int)) = false := decide_eq_false c4
    have c4b1 : decide (24 < a0.size) = false := decide_eq_false (by omega)
    clear c4
    by_cases c5 : 0 < (a0.size : Int)
    ·rw [if_pos c5] at H
     have c5b0 : decide (0 < (a0.size : Int)) = true := decide_eq_true c5
     have c5b1 : decide (0 < a0.size) = true := decide_eq_true (by omega)
     clear c5
     by_cases c7 : (bt a0 0) < 65
     ·rw [if_pos c7] at H
      have c7b0 : decide ((bt a0 0) < 65) = true := decide_eq_true c7
      clear c7
      have H' := Aside0.mk H
      clear H
      have p6 : 0 ≤ (0 : Int) := (by omega)
      have q6 : 0 < a0.size := (by have : (0 : Int) < (a0.size : Int) := of_decide_eq_true (by first | (with_reducible assumption) | assumption); omega)
      have hx6 : ∀ h : 0 < a0.size, ((a0[0]'h).toNat : Int) = bt a0 0 := bt_at a0 0
      clear p6
      have qi6 : (0 < (a0.size : Int)) = True := eq_true (of_decide_eq_true (by first | (with_reducible assumption) | assumption))
      replace q6 := eq_true q6
      go_wp2
      go_meet
      case rel => exact ⟨_, (true), (by first | rfl | (simp; done) | (simp [*]; done)), H', ⟨by first | omega | exact Nat.le_refl _⟩, by repeat (first | exact Drawn0.refl _ | apply Drawn0.step)⟩
     ·rw [if_neg c7] at H
      have c7b0 : decide ((bt a0 0) < 65) = false := decide_eq_false c7
      clear c7
      have H' := Aside0.mk H
      clear H
      have p6 : 0 ≤ (0 : Int) := (by omega)
      have q6 : 0 < a0.size := (by have : (0 : Int) < (a0.size : Int) := of_decide_eq_true (by first | (with_reducible assumption) | assumption); omega)
      have hx6 : ∀ h : 0 < a0.size, ((a0[0]'h).toNat : Int) = bt a0 0 := bt_at a0 0
      clear p6
      have qi6 : (0 < (a0.size : Int)) = True := eq_true (of_decide_eq_true (by first | (with_reducible assumption) | assumption))
      replace q6 := eq_true q6
      have p8 : 0 ≤ (0 : Int) := (by omega)
      have q8 : 0 < a0.size := (by have : (0 : Int) < (a0.size : Int) := of_decide_eq_true (by first | (with_reducible assumption) | assumption); omega)
      have hx8 : ∀ h : 0 < a0.size, ((a0[0]'h).toNat : Int) = bt a0 0 := bt_at a0 0
      clear p8
      have qi8 : (0 < (a0.size : Int)) = True := eq_true (of_decide_eq_true (by first | (with_reducible assumption) | assumption))
      replace q8 := eq_true q8
      go_wp2
      go_meet
      case rel => exact ⟨_, (decide ((bt a0 0) > 90)), (by first | rfl | (simp; done) | (simp [*]; done)), H', ⟨by first | omega | exact Nat.le_refl _⟩, by repeat (first | exact Drawn0.refl _ | apply Drawn0.step)⟩
    ·rw [if_neg c5] at H
     exact absurd H (by simp)
 case rest =>
  clear HC2
  (try clear p2); (try clear c3); (try clear c3b0); (try clear c3b1); (try clear c4); (try clear c4b0); (try clear c4b1); (try clear c5); (try clear c5b0); (try clear c5b1); (try clear p6); (try clear q6); (try clear hx6); (try clear qi6); (try clear c7); (try clear c7b0); (try clear p8); (try clear q8); (try clear hx8); (try clear qi8); (try clear p6); (try clear p8); (try clear q6); (try clear q8)
  obtain ⟨kq, x21_1, rfl, HA, HJ1, ⟨mc1, rfl⟩⟩ := hcut
  cases kq with
  | zero => exact absurd HA.out (by simp [subst_Var.j0])
  | succ kj1 =>
   have H := HA.out
   clear HA
   simp only [subst_Var.j0] at H
   by_cases c9 : x21_1 = true
   ·subst c9
    have H1 : (some false) = some r := by rw [if_pos rfl] at H; exact H
    clear H
    have H := H1
    clear H1
    obtain rfl := Option.some.inj H
    go_wp2
    go_ret
    exact drz
   ·replace c9 := Bool.eq_false_iff.mpr c9
    subst c9
    have H1 : (subst_Var.l0 kj1 a0 (a0.size : Int) 0) = some r := by rw [if_neg (show ¬ (false = true) by decide)] at H; exact H
    clear H
    have H := H1
    clear H1
    have H' := Aside0.mk H
    clear H
    go_wp2
    go_loopg [24] kj1 (fun kq v24 w' => ∃ (x24_2 : Int), v24 = .int .i64 x24_2 ∧ Aside0 (subst_Var.l0 kq a0 (a0.size : Int) x24_2 = some r) ∧ Aside0 (kq ≤ kj1) ∧ Drawn0 w w')
    case atStart => exact ⟨(0), (by first | rfl | (simp; done) | (simp [*]; done)), H', ⟨Nat.le_refl _⟩, by repeat (first | exact Drawn0.refl _ | apply Drawn0.step)⟩
    case round =>
     clear H'
     (try clear c1); (try clear p2); (try clear c3); (try clear c3b0); (try clear c3b1); (try clear c4); (try clear c4b0); (try clear c4b1); (try clear c5); (try clear c5b0); (try clear c5b1); (try clear p6); (try clear q6); (try clear hx6); (try clear qi6); (try clear c7); (try clear c7b0); (try clear p8); (try clear q8); (try clear hx8); (try clear qi8); (try clear c9); (try clear p2); (try clear p6); (try clear p8); (try clear q6); (try clear q8)
     obtain ⟨x24_2, rfl, HA, HK2, ⟨m2, rfl⟩⟩ := hrel
     cases gk with
     | zero => exact absurd HA.out (by simp [subst_Var.l0])
     | succ k2 =>
      have H := HA.out
      clear HA
      simp only [subst_Var.l0] at H
      by_cases c10 : x24_2 < (a0.size : Int)
      ·rw [if_pos c10] at H
       have c10b0 : decide (x24_2 < (a0.size : Int)) = true := decide_eq_true c10
       clear c10
       by_cases c11 : 0 ≤ x24_2
       ·rw [if_pos c11] at H
        have c11b0 : decide (0 ≤ x24_2) = true := decide_eq_true c11
        clear c11
        by_cases c12 : x24_2 < (a0.size : Int)
        ·rw [if_pos c12] at H
         have c12b0 : decide (x24_2 < (a0.size : Int)) = true := decide_eq_true c12
         clear c12
         replace H := Option.bind_eq_some_iff.mp H
         obtain ⟨t182, A140, H⟩ := H
         replace H : (if t182 = true then (subst_Var.l0 k2 a0 (a0.size : Int) (wrap64 (x24_2 + 1))) else (some false)) = some r := H
         have A14 := Aside0.mk A140
         clear A140
         by_cases c15 : t182 = true
         ·subst c15
          have H1 : (subst_Var.l0 k2 a0 (a0.size : Int) (wrap64 (x24_2 + 1))) = some r := by rw [if_pos rfl] at H; exact H
          clear H
          have H := H1
          clear H1
          have H' := Aside0.mk H
          clear H
          have p13 : 0 ≤ (x24_2 : Int) := of_decide_eq_true (by first | (with_reducible assumption) | assumption)
          have q13 : x24_2 < (a0.size : Int) := of_decide_eq_true (by first | (with_reducible assumption) | assumption)
          have hx13 := bt_at a0 x24_2
          replace p13 := eq_true p13
          replace q13 := eq_true q13
          go_wp2_with (first | ((with_reducible refine gate_callee (f := 119) rfl ?_); refine goesL_ (some 30) rfl rfl Tryz.func119 (by kernel_rfl) rfl #[.int .u8 (bt a0 x24_2)] rfl aG ?_; (with_reducible refine (subst_letter.calls (bt a0 x24_2) true _ A14.out).mono ?_); rintro e w' ⟨rfl, ⟨nd, rfl⟩⟩; refine ⟨_, rfl, ?_⟩))
          go_roundg k2
          case measure => have := HJ1.out; have := HK2.out; omega
          case rel => exact ⟨(wrap64 (x24_2 + 1)), (by first | rfl | (simp; done) | (simp [*]; done)), H', ⟨by have := HJ1.out; have := HK2.out; omega⟩, by repeat (first | exact Drawn0.refl _ | apply Drawn0.step)⟩
         ·replace c15 := Bool.eq_false_iff.mpr c15
          subst c15
          have H1 : (some false) = some r := by rw [if_neg (show ¬ (false = true) by decide)] at H; exact H
          clear H
          have H := H1
          clear H1
          obtain rfl := Option.some.inj H
          have p13 : 0 ≤ (x24_2 : Int) := of_decide_eq_true (by first | (with_reducible assumption) | assumption)
          have q13 : x24_2 < (a0.size : Int) := of_decide_eq_true (by first | (with_reducible assumption) | assumption)
          have hx13 := bt_at a0 x24_2
          replace p13 := eq_true p13
          replace q13 := eq_true q13
          go_wp2_with (first | ((with_reducible refine gate_callee (f := 119) rfl ?_); refine goesL_ (some 30) rfl rfl Tryz.func119 (by kernel_rfl) rfl #[.int .u8 (bt a0 x24_2)] rfl aG ?_; (with_reducible refine (subst_letter.calls (bt a0 x24_2) false _ A14.out).mono ?_); rintro e w' ⟨rfl, ⟨nd, rfl⟩⟩; refine ⟨_, rfl, ?_⟩))
          go_ret
          exact drz
        ·rw [if_neg c12] at H
         exact absurd H (by simp)
       ·rw [if_neg c11] at H
        exact absurd H (by simp)
      ·rw [if_neg c10] at H
       have c10b0 : decide (x24_2 < (a0.size : Int)) = false := decide_eq_false c10
       clear c10
       obtain rfl := Option.some.inj H
       go_wp2
       go_ret
       exact drz
def subst_right.f (k : Nat) (a0_0 : ByteArray) (a0_1 : Int) (a0_2 : Int) (a0_3 : ByteArray) : Option (Bool) := (subst_Var.f k a0_0).bind fun t184 => (if t184 = true then ((val_Check.f k a0_1 a0_2 a0_3).bind fun t185 => (some (t185 == 0))) else (some false))
set_option maxHeartbeats 8000000 in
set_option maxRecDepth 100000 in
theorem subst_right.calls (k : Nat) (a0_0 : ByteArray) (a0_1 : Int) (a0_2 : Int) (a0_3 : ByteArray) (r : Bool) (w : World) (h : subst_right.f k a0_0 a0_1 a0_2 a0_3 = some r) :
  Calls Tryz.prog 64 #[.agg #[.string a0_0, .int .i64 a0_1, .int .i64 a0_2, .string a0_3]] w fun e w' => e = .returned (.bool r) ∧ Below w.heap.size w w' := by
 have hu66 := Tryz.underlying66
 have hu64 := Tryz.underlying64
 have HB := Aside0.mk (Below.refl w.heap.size w)
 have H : ((subst_Var.f k a0_0).bind fun t184 => (if t184 = true then ((val_Check.f k a0_1 a0_2 a0_3).bind fun t185 => (some (t185 == 0))) else (some false))) = some r := h
 clear h
 replace H := Option.bind_eq_some_iff.mp H
 obtain ⟨t184, A20, H⟩ := H
 replace H : (if t184 = true then ((val_Check.f k a0_1 a0_2 a0_3).bind fun t185 => (some (t185 == 0))) else (some false)) = some r := H
 have A2 := Aside0.mk A20
 clear A20
 by_cases c3 : t184 = true
 ·subst c3
  have H1 : ((val_Check.f k a0_1 a0_2 a0_3).bind fun t185 => (some (t185 == 0))) = some r := by rw [if_pos rfl] at H; exact H
  clear H
  have H := H1
  clear H1
  replace H := Option.bind_eq_some_iff.mp H
  obtain ⟨t185, A40, H⟩ := H
  replace H : (some (t185 == 0)) = some r := H
  have A4 := Aside0.mk A40
  clear A40
  obtain rfl := Option.some.inj H
  go_enter Tryz.func64, Tryz.ntmps64
  go_wp2_with (first | ((with_reducible refine gate_dst (N := 1) rfl ?_); refine bE (N := 1) (cs := #[.string a0_0, .int .i64 a0_1, .int .i64 a0_2, .string a0_3]) (t := 66) ?_; intro gb183 hg w5 hbox hb; have n0_ := Aside0.mk (below_step bB0 hb); have n1_ := Aside0.mk (hbox); have n2_ := Aside0.mk ((by rw [hg]; exact (below_size bB0) : w.heap.size ≤ gb183)); have n3_ := Aside0.mk ((by rw [hg]; exact (below_size bB0) : w.heap.size ≤ gb183)); clear HB; have HB := n0_; have BK183 := n1_; have GW183 := n2_; have GE183 := n3_; clear n0_ n1_ n2_ n3_; clear hb hbox hg; have hcz6_0 : w5.cell? ⟨gb183, 0, none⟩ = some (.string a0_0) := (blk_cell BK183.out 0).trans rfl; have hcz6_1 : w5.cell? ⟨gb183, 1, none⟩ = some (.int .i64 a0_1) := (blk_cell BK183.out 1).trans rfl; have hcz6_2 : w5.cell? ⟨gb183, 2, none⟩ = some (.int .i64 a0_2) := (blk_cell BK183.out 2).trans rfl; have hcz6_3 : w5.cell? ⟨gb183, 3, none⟩ = some (.string a0_3) := (blk_cell BK183.out 3).trans rfl; have hfz6_0 := blk_frozen BK183.out 0; have hfz6_1 := blk_frozen BK183.out 1; have hfz6_2 := blk_frozen BK183.out 2; have hfz6_3 := blk_frozen BK183.out 3) | ((with_reducible refine gate_callee (f := 96) rfl ?_); refine goesL_ (some 5) rfl rfl Tryz.func96 (by kernel_rfl) rfl #[.string a0_0] rfl aG ?_; (with_reducible refine (subst_Var.calls k a0_0 true _ A2.out).mono ?_); rintro e w' ⟨rfl, ⟨nd, rfl⟩⟩; refine ⟨_, rfl, ?_⟩) | (go_at_call 92; (with_reducible refine (val_Check.calls k a0_1 a0_2 a0_3 t185 _ A4.out).mono ?_); rintro e w7 ⟨rfl, hb⟩; have n0_ := Aside0.mk (blk_below (g := gb183) (o := .cells #[.string a0_0, .int .i64 a0_1, .int .i64 a0_2, .string a0_3] 66 (0, 0)) (by refine bk ?_; exact BK183.out) hb); have n1_ := Aside0.mk (below_step (bB1 GE183.out) hb); clear BK183; clear HB; have BK183 := n0_; have HB := n1_; clear n0_ n1_; (try clear hb); (try clear hb2); (try clear hk); (try clear hi)))
  go_ret
  exact ⟨eW, (bB1 GE183.out)⟩
 ·replace c3 := Bool.eq_false_iff.mpr c3
  subst c3
  have H1 : (some false) = some r := by rw [if_neg (show ¬ (false = true) by decide)] at H; exact H
  clear H
  have H := H1
  clear H1
  obtain rfl := Option.some.inj H
  go_enter Tryz.func64, Tryz.ntmps64
  go_wp2_with (first | ((with_reducible refine gate_dst (N := 1) rfl ?_); refine bE (N := 1) (cs := #[.string a0_0, .int .i64 a0_1, .int .i64 a0_2, .string a0_3]) (t := 66) ?_; intro gb183 hg w8 hbox hb; have n0_ := Aside0.mk (below_step bB0 hb); have n1_ := Aside0.mk (hbox); have n2_ := Aside0.mk ((by rw [hg]; exact (below_size bB0) : w.heap.size ≤ gb183)); have n3_ := Aside0.mk ((by rw [hg]; exact (below_size bB0) : w.heap.size ≤ gb183)); clear HB; have HB := n0_; have BK183 := n1_; have GW183 := n2_; have GE183 := n3_; clear n0_ n1_ n2_ n3_; clear hb hbox hg; have hcz9_0 : w8.cell? ⟨gb183, 0, none⟩ = some (.string a0_0) := (blk_cell BK183.out 0).trans rfl; have hcz9_1 : w8.cell? ⟨gb183, 1, none⟩ = some (.int .i64 a0_1) := (blk_cell BK183.out 1).trans rfl; have hcz9_2 : w8.cell? ⟨gb183, 2, none⟩ = some (.int .i64 a0_2) := (blk_cell BK183.out 2).trans rfl; have hcz9_3 : w8.cell? ⟨gb183, 3, none⟩ = some (.string a0_3) := (blk_cell BK183.out 3).trans rfl; have hfz9_0 := blk_frozen BK183.out 0; have hfz9_1 := blk_frozen BK183.out 1; have hfz9_2 := blk_frozen BK183.out 2; have hfz9_3 := blk_frozen BK183.out 3) | ((with_reducible refine gate_callee (f := 96) rfl ?_); refine goesL_ (some 5) rfl rfl Tryz.func96 (by kernel_rfl) rfl #[.string a0_0] rfl aG ?_; (with_reducible refine (subst_Var.calls k a0_0 false _ A2.out).mono ?_); rintro e w' ⟨rfl, ⟨nd, rfl⟩⟩; refine ⟨_, rfl, ?_⟩))
  go_ret
  exact ⟨eW, (bB1 GE183.out)⟩
theorem eqA64 (d : Nat) (w : World) (x0 y0 : Int) (x1 y1 : Int) (x2 y2 : ByteArray) :
  (Op.equalIn (d + 2) 64 (.agg #[.int .i64 x0, .int .i64 x1, .string x2]) (.agg #[.int .i64 y0, .int .i64 y1, .string y2])).run Tryz.prog w = .ok (x0 == y0 && (x1 == y1 && (x2.toList == y2.toList))) w := by
 refine eqA_of Tryz.underlying64 (by kernel_rfl) ?_
 refine eqf_cons (by rfl) (by go_simp; rfl) (by go_simp; rfl) (by go_simp) ?_
 refine eqf_cons (by rfl) (by go_simp; rfl) (by go_simp; rfl) (by go_simp) ?_
 exact eqf_last (by rfl) (by go_simp; rfl) (by go_simp; rfl) (by go_simp)
theorem eqA66 (d : Nat) (w : World) (x0 y0 : ByteArray) (x1 y1 : Int) (x2 y2 : Int) (x3 y3 : ByteArray) :
  (Op.equalIn (d + 3) 66 (.agg #[.string x0, .int .i64 x1, .int .i64 x2, .string x3]) (.agg #[.string y0, .int .i64 y1, .int .i64 y2, .string y3])).run Tryz.prog w = .ok (x0.toList == y0.toList && ((x1 == y1 && (x2 == y2 && (x3.toList == y3.toList))))) w := by
 refine eqA_of Tryz.underlying66 (by kernel_rfl) ?_
 refine eqf_cons (by rfl) (by go_simp; rfl) (by go_simp; rfl) (by go_simp) ?_
 exact eqf_last (by rfl) (by go_simp) (by go_simp) (eqA64 (d + 0) w _ _ _ _ _ _)
end Go.Proofs.YtghommaokdhjmaaGreat.P
/- What subst.Check answers, as a plain function: the printed function answers it from some number of rounds on. -/
namespace Go.Proofs.YtghommaokdhjmaaGreat.PSpec
open Go.RowKit Go.Proofs.YtghommaokdhjmaaGreatW.PrintWords Go.Proofs.YtghommaokdhjmaaGreatW.PrintLast Gate P
theorem var_loop (s : ByteArray) (hs : s.size ≤ 1000000) : ∀ (m i K : Nat), i + m = s.size → m < K → subst_Var.l0 K s (s.size : Int) i = some (allFrom (fun i => letP (bt s i)) m i) := by
 intro m
 induction m with
 | zero =>
  intro i K h hK
  obtain ⟨K, rfl⟩ : ∃ q, K = q + 1 := ⟨K - 1, by omega⟩
  rw [subst_Var.l0, if_neg (by omega)]; rfl
 | succ m ih =>
  intro i K h hK
  obtain ⟨K, rfl⟩ : ∃ q, K = q + 1 := ⟨K - 1, by omega⟩
  rw [subst_Var.l0, if_pos (by omega), if_pos (by omega), if_pos (by omega), letP_eq, Option.bind_some, w64 hs (show i < s.size by omega), ih (i + 1) K (by omega) (by omega), allFrom]
  cases letP (bt s i) <;> rfl
theorem varP_eq (s : ByteArray) (K : Nat) (hK : 30 ≤ K) : subst_Var.f K s = some (varP s) := by
 have jt : subst_Var.j0 K s true = some false := by
  obtain ⟨K, rfl⟩ : ∃ q, K = q + 1 := ⟨K - 1, by omega⟩
  rw [subst_Var.j0, if_pos rfl]
 unfold subst_Var.f varP
 by_cases h1 : s.size < 1
 ·rw [if_pos (by omega), jt]; simp [show ¬ 1 ≤ s.size by omega]
 ·rw [if_neg (by omega)]
  by_cases h2 : s.size > 24
  ·rw [if_pos (by omega), jt]; simp [show ¬ s.size ≤ 24 by omega]
  ·rw [if_neg (by omega), if_pos (by omega)]
   by_cases h3 : bt s 0 < 65
   ·rw [if_pos h3, jt]; simp [show ¬ 65 ≤ bt s 0 by omega]
   ·rw [if_neg h3]
    by_cases h4 : bt s 0 > 90
    ·rw [decide_eq_true h4, jt]; simp [show ¬ bt s 0 ≤ 90 by omega]
    ·rw [decide_eq_false h4]
     obtain ⟨K, rfl⟩ : ∃ q, K = q + 1 := ⟨K - 1, by omega⟩
     rw [subst_Var.j0, if_neg (by simp), show (0 : Int) = ((0 : Nat) : Int) from rfl, var_loop s (by omega) s.size 0 K (by omega) (by omega)]
     simp [show 1 ≤ s.size by omega, show s.size ≤ 24 by omega, show 65 ≤ bt s 0 by omega, show bt s 0 ≤ 90 by omega, varAll]
def rightP (x : S66) : Bool := varP x.f0 && (valP x.f1.f0 x.f1.f1 x.f1.f2 == 0)
theorem rightP_eq (x : S66) (hs : x.f1.f2.size ≤ 1000000) (K : Nat) (hK : x.f1.f2.size + 40 ≤ K) : subst_right.f K x.f0 x.f1.f0 x.f1.f1 x.f1.f2 = some (rightP x) := by
 unfold subst_right.f rightP
 rw [varP_eq _ K (by omega), valP_eq _ _ _ hs K hK]
 simp only [Option.bind_some]
 cases varP x.f0 <;> rfl
def fitB (l : List S66) : Bool := l.all fun x => decide (x.f0.size ≤ 1000000) && decide (x.f1.f2.size ≤ 1000000)
theorem fitB_at {l : List S66} (h : fitB l = true) {i : Nat} (hi : i < l.length) : (rd_T66 l i).f0.size ≤ 1000000 ∧ (rd_T66 l i).f1.f2.size ≤ 1000000 := by
 unfold fitB at h
 rw [List.all_eq_true] at h
 have := h _ (List.getElem_mem hi)
 rw [Bool.and_eq_true, decide_eq_true_eq, decide_eq_true_eq] at this
 unfold rd_T66
 rw [Int.toNat_natCast, List.getD_eq_getElem?_getD, List.getElem?_eq_getElem hi]
 exact this
def chkT (l : List S66) (i : Nat) : Bool := rightP (rd_T66 l i) && (decide (i = 0) || Op.bytesLess (rd_T66 l ((i - 1 : Nat) : Int)).f0.toList (rd_T66 l i).f0.toList)
def chkP (l : List S66) : Int := if l.length > 100 then 1 else if allFrom (chkT l) l.length 0 then 0 else 1
end Go.Proofs.YtghommaokdhjmaaGreat.PSpec
/- subst.Check: its walk by hand. -/
namespace Go.Proofs.YtghommaokdhjmaaGreat.PSpec
open Go.RowKit Go.Lib Go.Sort Go.Proofs.YtghommaokdhjmaaGreatW.PrintWords Go.Proofs.YtghommaokdhjmaaGreatW.PrintLast Gate P
theorem cRight {W : World} (x : S66) (hs : x.f1.f2.size ≤ 1000000) : Calls Tryz.prog 64 #[.agg #[.string x.f0, .int .i64 x.f1.f0, .int .i64 x.f1.f1, .string x.f1.f2]] W fun e w' => e = .returned (.bool (rightP x)) ∧ Go.RowKit.Below W.heap.size W w' := subst_right.calls _ _ _ _ _ _ W (rightP_eq x hs _ (Nat.le_refl _))
theorem wp_world2 {P : Program} {c : Code} {Q : Exit → Act → World → Prop} {a : Act} {W : World} (R : World → Prop) (hR : R W) (h : ∀ W', R W' → c.wp P Q a W') : c.wp P Q a W := h W hR
theorem kwrap2 {z : Int} (h0 : -1 ≤ z) (h1 : z ≤ 4000000) : IntKind.i64.wrap z = z := by unfold IntKind.wrap; simp [IntKind.bits, IntKind.signed]; omega
set_option maxHeartbeats 8000000 in
set_option maxRecDepth 1000000 in
theorem chk_calls (B : Option Addr) (bc : Nat) (b : List S66) (w : World) (hb : Kd.C k66 w B b.length b) (hcap : b.length ≤ bc) (hf : fitB b = true) : Calls Tryz.prog 34 #[.slice B b.length bc] w fun e w' => e = .returned (.int .i64 (chkP b)) ∧ Go.RowKit.Below w.heap.size w w' := by
 have hu := Tryz.underlying66
 have hu2 := Tryz.underlying64
 obtain ⟨bn, hlen⟩ : ∃ bn, b.length = bn := ⟨_, rfl⟩
 rw [hlen] at hb hcap ⊢
 by_cases h100 : 100 < bn
 ·have d : decide (100 < (bn : Int)) = true := decide_eq_true (by omega)
  have hr : chkP b = 1 := by unfold chkP; rw [if_pos (by omega)]
  rw [hr]
  clear hb hf hr
  go_enter Tryz.func34, Tryz.ntmps34
  go_wp2
  go_ret
  exact ⟨rfl, Go.RowKit.Below.refl _ _⟩
 have d : decide (100 < (bn : Int)) = false := decide_eq_false (by omega)
 obtain ⟨v, hv⟩ : ∃ v, allFrom (chkT b) bn 0 = v := ⟨_, rfl⟩
 obtain ⟨z, hz⟩ : ∃ z, chkP b = z := ⟨_, rfl⟩
 have hr : z = if v = true then 0 else 1 := by
  rw [← hz]
  unfold chkP
  rw [if_neg (by omega), hlen, hv]
 rw [hz]
 have HR := Aside0.mk hb
 have HF := Aside0.mk hf
 have HV := Aside0.mk hv
 have HZ := Aside0.mk hr
 have mixed : Tryz.prog.follows .mixedOrders = true := by kernel_rfl
 clear hb hf hr hv hz
 go_enter Tryz.func34, Tryz.ntmps34
 go_wp2
 go_loopg [10] bn (fun gg s10 wr => ∃ j : Nat, s10 = .int .i64 j ∧ j ≤ bn ∧ bn - j ≤ gg ∧ Aside0 (Go.RowKit.Below w.heap.size w wr ∧ allFrom (chkT b) (bn - j) j = v))
 case atStart => exact ⟨0, rfl, Nat.zero_le _, Nat.le_refl _, ⟨Go.RowKit.Below.refl _ _, by rw [Nat.sub_zero]; exact HV.out⟩⟩
 case round =>
  clear HV
  obtain ⟨j, rfl, hj, hg, HI⟩ := hrel
  by_cases hlt : j < bn
  ·have hltz : (j : Int) < (bn : Int) := by omega
   have hjz : (0 : Int) ≤ (j : Int) := by omega
   have HT : Aside0 (allFrom (chkT b) (bn - j) j = (chkT b j && allFrom (chkT b) (bn - (j + 1)) (j + 1))) := ⟨by rw [show bn - j = (bn - (j + 1)) + 1 by omega, allFrom]⟩
   obtain ⟨ad, eB, x0, x1, x2, x3⟩ := at_T66 (Kd.C_below HR.out HI.out.1) (j : Int) hjz hltz
   rw [show ((j : Int)).toNat * 4 = j * 4 by omega] at x0 x1 x2 x3
   have HFx := Aside0.mk (fitB_at HF.out (show j < b.length by omega))
   obtain ⟨x, hx⟩ : ∃ x, rd_T66 b (j : Int) = x := ⟨_, rfl⟩
   rw [hx] at x0 x1 x2 x3 HFx
   obtain ⟨i, hi⟩ : ∃ i, i = j - 1 := ⟨_, rfl⟩
   obtain ⟨ad', eB', p0, _, _, _⟩ := at_T66 (Kd.C_below HR.out HI.out.1) (i : Int) (by omega) (by omega)
   rw [eB] at eB'
   obtain rfl : ad = ad' := Option.some.inj eB'
   rw [show ((i : Int)).toNat * 4 = i * 4 by omega] at p0
   obtain ⟨y, hy⟩ : ∃ y, rd_T66 b (i : Int) = y := ⟨_, rfl⟩
   rw [hy] at p0
   have HC : Aside0 (chkT b j = (rightP x && (decide (j = 0) || Op.bytesLess y.f0.toList x.f0.toList))) := ⟨by
    unfold chkT
    rw [hx, ← hi, hy]⟩
   subst eB
   have kw : IntKind.i64.wrap ((j : Int) + 1) = ((j + 1 : Nat) : Int) := by rw [show (j : Int) + 1 = ((j + 1 : Nat) : Int) by omega]; exact kwrap2 (by omega) (by omega)
   have hj0 : (j = 0 ∧ decide ((0 : Int) < (j : Int)) = false ∧ decide (0 < j) = false) ∨ (j ≠ 0 ∧ decide ((0 : Int) < (j : Int)) = true ∧ decide (0 < j) = true ∧ IntKind.i64.wrap ((j : Int) - 1) = (i : Int)) := by
    by_cases h0 : j = 0
    ·exact .inl ⟨h0, decide_eq_false (by omega), decide_eq_false (by omega)⟩
    ·exact .inr ⟨h0, decide_eq_true (by omega), decide_eq_true (by omega), by rw [show (j : Int) - 1 = (i : Int) by omega]; exact kwrap2 (by omega) (by omega)⟩
   have i0 : (0 : Int) ≤ (i : Int) := by omega
   have i1 : (i : Int) < (bn : Int) := by omega
   have HJ := Aside0.mk hlt
   have hbv : Go.RowKit.Below wr.heap.size wr (wr.alloc (.cells #[.string x.f0, .int .i64 x.f1.f0, .int .i64 x.f1.f1, .string x.f1.f2] 66)) := (Go.RowKit.Below.refl _ wr).alloc (Nat.le_refl _) _
   go_upto_region 6 with fail
   refine wp_world2 (fun V => V.cell? ⟨wr.heap.size, 0, none⟩ = some (.string x.f0) ∧ V.cell? ⟨wr.heap.size, 1, none⟩ = some (.int .i64 x.f1.f0) ∧ V.cell? ⟨wr.heap.size, 2, none⟩ = some (.int .i64 x.f1.f1) ∧ V.cell? ⟨wr.heap.size, 3, none⟩ = some (.string x.f1.f2) ∧ V.cell? (ad.add (i * 4)) = some (.string y.f0) ∧ Go.RowKit.Below wr.heap.size wr V) ⟨by simp, by simp, by simp, by simp, mvc hbv p0, hbv⟩ ?_
   clear hbv x0 x1 x2 x3 p0
   generalize hgb : wr.heap.size = gb
   rintro V ⟨x0, x1, x2, x3, p0, hbV⟩
   rw [← hgb] at hbV
   clear hgb
   have HBV := Aside0.mk (HI.out.1.trans (hbV.mono HI.out.1.size))
   have HI2 := Aside0.mk HI.out.2
   have r0 := cell_regrown x0
   have r1 := cell_regrown x1
   have r2 := cell_regrown x2
   have r3 := cell_regrown x3
   have rp := cell_regrown p0
   have c1 : ∀ d os, Calls Tryz.prog 64 #[.agg #[.string x.f0, .int .i64 x.f1.f0, .int .i64 x.f1.f1, .string x.f1.f2]] (grow (redrawn V d) os) fun e w'' => e = .returned (.bool (rightP x)) ∧ ∃ p : Regrown, w'' = grow (redrawn V p.d) p.os := fun d os => Calls.regrown_of (cRight x HFx.out.2)
   clear hx hy hi x0 x1 x2 x3 p0 eB' HFx hbV HI
   generalize rightP x = q1 at *
   generalize hls : Op.bytesLess y.f0.toList x.f0.toList = ls at *
   have hc : (q1 = false) ∨ (q1 = true ∧ j = 0 ∧ decide ((0 : Int) < (j : Int)) = false ∧ decide (0 < j) = false) ∨ (q1 = true ∧ j ≠ 0 ∧ decide ((0 : Int) < (j : Int)) = true ∧ decide (0 < j) = true ∧ IntKind.i64.wrap ((j : Int) - 1) = (i : Int) ∧ ls = false) ∨ (q1 = true ∧ j ≠ 0 ∧ decide ((0 : Int) < (j : Int)) = true ∧ decide (0 < j) = true ∧ IntKind.i64.wrap ((j : Int) - 1) = (i : Int) ∧ ls = true) := by
    cases q1
    ·exact .inl rfl
    ·rcases hj0 with h | h
     ·exact .inr (.inl ⟨rfl, h⟩)
     ·cases ls
      ·exact .inr (.inr (.inl ⟨rfl, h.1, h.2.1, h.2.2.1, h.2.2.2, rfl⟩))
      ·exact .inr (.inr (.inr ⟨rfl, h.1, h.2.1, h.2.2.1, h.2.2.2, rfl⟩))
   clear hj0
   rcases hc with rfl | ⟨rfl, h0, d0, d1⟩ | ⟨rfl, h0, d0, d1, kw2, rfl⟩ | ⟨rfl, h0, d0, d1, kw2, rfl⟩
   all_goals (
    (try have H0 := Aside0.mk h0)
    (try clear h0)
    refine wp_region_quiet_below mixed (by kernel_rfl) ?_
    repeat (first | go_big_quiet_step (exact c1 _ _) | quiet_step (exact c1 _ _))
    refine wpQuiet_nil ?_
    intro _ hw'
    obtain ⟨⟨dq, osq⟩, hw''⟩ := hw'
    subst hw''
    have HB2 := Aside0.mk (HBV.out.trans ((below_regrown V dq osq).mono HBV.out.size))
    clear c1 r0 r1 r2 r3 rp
    go_wp2)
   ·go_ret
    exact ⟨by rw [HZ.out, ← HI2.out, HT.out, HC.out]; rfl, HB2.out⟩
   ·go_roundg (bn - (j + 1))
    case measure => have := HJ.out; omega
    case rel => exact ⟨j + 1, by go_num, by have := HJ.out; omega, Nat.le_refl _, ⟨HB2.out, by rw [← HI2.out, HT.out, HC.out, decide_eq_true H0.out]; simp⟩⟩
   ·go_ret
    exact ⟨by rw [HZ.out, ← HI2.out, HT.out, HC.out, decide_eq_false H0.out]; rfl, HB2.out⟩
   ·go_roundg (bn - (j + 1))
    case measure => have := HJ.out; omega
    case rel => exact ⟨j + 1, by go_num, by have := HJ.out; omega, Nat.le_refl _, ⟨HB2.out, by rw [← HI2.out, HT.out, HC.out]; simp⟩⟩
  ·have hltz : ¬ (j : Int) < (bn : Int) := by omega
   go_wp2
   go_ret
   exact ⟨by rw [HZ.out, ← HI.out.2, show bn - j = 0 by omega]; rfl, HI.out.1⟩
end Go.Proofs.YtghommaokdhjmaaGreat.PSpec
/- Rows of elements of k cells as lists: the flat list of the cells; an own row, an argument's row, and the words of a walk on arrays. -/
namespace Go.Proofs.SymP
open Go.Shelf Go.RowKit Go.Lib Go.Sort Go.Proofs.YtghommaokdhjmaaGreatW.PrintWords
variable {P : Program} {α : Type} {enc : α → List Value} {k : Nat} {W : World}

theorem flat_get (hk : ∀ x, (enc x).length = k) (h0 : 0 < k) : ∀ (l : List α) (j : Nat), (l.flatMap enc)[j]? = (l[j / k]?).bind fun x => (enc x)[j % k]?
 | [], j => by simp
 | x :: l, j => by
  rw [List.flatMap_cons]
  rcases Nat.lt_or_ge j k with h | h
  ·rw [List.getElem?_append_left (by rw [hk]; exact h), Nat.div_eq_of_lt h, Nat.mod_eq_of_lt h]; rfl
  ·obtain ⟨i, rfl⟩ : ∃ i, j = i + k := ⟨j - k, by omega⟩
   rw [List.getElem?_append_right (by rw [hk]; exact h), hk, Nat.add_sub_cancel, flat_get hk h0 l i, Nat.add_div_right _ h0, Nat.add_mod_right, List.getElem?_cons_succ]
theorem flat_len (hk : ∀ x, (enc x).length = k) (l : List α) : (l.flatMap enc).length = l.length * k := by
 rw [List.length_flatMap]
 induction l with
 | nil => simp
 | cons x l ih => rw [List.map_cons, List.sum_cons, ih, hk, List.length_cons, Nat.add_mul, Nat.one_mul, Nat.add_comm]
theorem flat_at (hk : ∀ x, (enc x).length = k) : ∀ (l : List α) (j : Nat) (p : α), l[j]? = some p → ((l.flatMap enc).drop (j * k)).take k = enc p
 | [], j, p, h => by simp at h
 | x :: l, 0, p, h => by
  obtain rfl : x = p := by simpa using h
  rw [List.flatMap_cons, Nat.zero_mul, List.drop_zero]
  exact List.take_left' (hk _)
 | x :: l, j + 1, p, h => by
  rw [List.flatMap_cons, Nat.add_mul, Nat.one_mul, Nat.add_comm, ← List.drop_drop, List.drop_left' (hk _)]
  exact flat_at hk l j p (by simpa using h)

theorem C_flat {kd : Kd α} (hK : ∀ {w x cs}, kd.K w x cs → cs = enc x) (hk : ∀ x, (enc x).length = k) (h0 : 0 < k) (hs : kd.sz = k) {A : Option Addr} {l : List α} (h : Kd.C kd W A l.length l) (hl : 0 < l.length) :
  ∃ ad, A = some ad ∧ ∀ j u, (l.flatMap enc)[j]? = some u → W.cell? (ad.add j) = some u := by
 obtain ⟨ad, e, hc⟩ := h.2.2 hl
 refine ⟨ad, e, fun j u hu => ?_⟩
 rw [flat_get hk h0] at hu
 cases hp : l[j / k]? with
 | none => rw [hp] at hu; simp at hu
 | some p =>
  rw [hp] at hu
  obtain ⟨c, _, hr, hcell⟩ := hc _ _ hp
  obtain rfl := hK hr
  have := hcell (j % k) u hu
  rwa [hs, Nat.div_add_mod'] at this
theorem R_flat {kd : Kd α} (hM : ∀ {w base ok x}, kd.M w base ok x (enc x)) (hk : ∀ x, (enc x).length = k) (hs : kd.sz = k) {e : TypeId} {base : Nat} {v : Value} {l : List α} (h : W.ownsRow base e k v l.length (l.flatMap enc)) :
  Kd.R kd e W base (fun _ => True) v l := by
 subst hs
 exact ⟨fun _ _ => trivial, l.flatMap enc, h, flat_len hk l, fun j p hj => by rw [flat_at hk l j p hj]; exact hM⟩

theorem append_C {kd : Kd α} (hK : ∀ {w x cs}, kd.K w x cs → cs = enc x) (hk : ∀ x, (enc x).length = k) (h0 : 0 < k) (hs : kd.sz = k) (ho : ∀ x, ∀ u ∈ enc x, u.oneCell' = true)
  (base : Nat) (t e : TypeId) (i : TypeInfo) (z : Value) (ht : P.underlying t = some (.slice e)) (hi : P.info? e = some i) (hz : i.zero = some z) (hsize : i.size = k) (hzs : z.cells.size = k)
  (v : Value) (l : List α) (hown : W.ownsRow base e k v l.length (l.flatMap enc)) (A : Option Addr) (m : List α) (c : Nat) (hC : Kd.C kd W A m.length m) (hA : A = none → c = 0 ∨ True)
  (hbytes : (l.length + m.length) * i.bytes ≤ 140737488355328) (h63 : l.length + m.length ≤ 1073741824) (hbase : base ≤ W.heap.size) :
  ∃ v' w', (∀ ty, (Builtin.append_ #[t, t] ty #[v, .slice A m.length c]).run P W = .ok v' w') ∧ w'.ownsRow base e k v' (l ++ m).length ((l ++ m).flatMap enc) ∧ W.grownBy w' v.ownBlock ∧ (v' = .slice none 0 0 ↔ v = .slice none 0 0 ∧ m.length = 0) := by
 rw [List.length_append, List.flatMap_append]
 by_cases hm : 0 < m.length
 ·obtain ⟨ad, rfl, hc⟩ := C_flat hK hk h0 hs hC hm
  obtain ⟨v', w', h1, h2, h3, h4⟩ := run_append_own (P := P) W base t 0 e i z k i.bytes ht hi hz hsize rfl hzs h0 v l.length _ hown ad m.length c (m.flatMap enc) (flat_len hk m) hc
   (fun u hu => by obtain ⟨x, _, hx⟩ := List.mem_flatMap.1 hu; exact ho x u hx) (by unfold maxLen; omega) hbytes hbase
  exact ⟨v', w', fun ty => h1, h2, h3, h4⟩
 ·have hm0 : m = [] := List.length_eq_zero_iff.1 (by omega)
  subst hm0
  refine ⟨v, W, fun ty => ?_, by simpa using hown, ⟨rfl, rfl, rfl, Nat.le_refl _, fun _ _ _ => rfl⟩, by simp⟩
  have hsl : ∃ b n cc, v = .slice b n cc ∧ n ≤ cc := by
   rcases hown.2 with ⟨rfl, _⟩ | ⟨g, cap, cur, rfl, _, _, hh, _⟩
   ·exact ⟨_, _, _, rfl, Nat.le_refl _⟩
   ·exact ⟨_, _, _, rfl, hh⟩
  obtain ⟨b, n, cc, rfl, hn⟩ := hsl
  refine run_append_nothing (P := P) W t t ty e i ht hi b n cc hn _ ?_
  cases A with
  | none => exact Src.ofNil W ht c
  | some ad => exact Src.ofSlice W ht ad 0 c [] (by simp) (fun j u h => by simp at h) (fun u h => by simp at h)

section
variable [Inhabited α]
theorem flat_of_take {cur : Array Value} {l : List α} (hk : ∀ x, (enc x).length = k) (h0 : 0 < k) (hle : l.length * k ≤ cur.size) (h : cur.toList.take (l.length * k) = l.flatMap enc) : Flat enc k cur l.toArray := by
 refine ⟨by simpa using hle, fun j c hj hc => ?_⟩
 have hj' : j < l.length := by simpa using hj
 have hl := lt_flat hj' hc
 have e1 : (j * k + c) / k = j := (blk_iff k j _ (by omega)).1 ⟨by omega, by omega⟩
 have e2 : (j * k + c) % k = c := by rw [Nat.mod_eq_sub_div_mul, e1]; omega
 have h2 := congrArg (·[j * k + c]?) h
 simp only [List.getElem?_take, hl, if_true, flat_get hk h0, e1, e2] at h2
 rw [← Array.getElem?_toList, h2, List.getElem?_eq_getElem hj']
 simp only [Option.bind_some]
 rw [getElem!_pos l.toArray j hj, List.getElem_toArray, List.getElem?_eq_getElem (by rw [hk]; exact hc), getElem!_pos _ c (by rw [hk]; exact hc)]
theorem take_of_flat {cur : Array Value} {d : Array α} (hk : ∀ x, (enc x).length = k) (h0 : 0 < k) (h : Flat enc k cur d) : cur.toList.take (d.size * k) = d.toList.flatMap enc := by
 apply List.ext_getElem?
 intro t
 rw [List.getElem?_take, flat_get hk h0]
 by_cases ht : t < d.size * k
 ·have h1 : t / k < d.size := by rw [Nat.div_lt_iff_lt_mul h0]; exact ht
  have h2 := h.2 (t / k) (t % k) h1 (Nat.mod_lt _ h0)
  rw [Nat.div_add_mod'] at h2
  rw [if_pos ht, Array.getElem?_toList, h2, Array.getElem?_toList, Array.getElem?_eq_getElem h1]
  simp only [Option.bind_some]
  rw [getElem!_pos d _ h1, List.getElem?_eq_getElem (by rw [hk]; exact Nat.mod_lt _ h0), getElem!_pos _ _ (by rw [hk]; exact Nat.mod_lt _ h0)]
 ·rw [if_neg ht, Array.getElem?_toList, Array.getElem?_eq_none]
  ·rfl
  ·rw [Nat.le_div_iff_mul_le h0]; omega
theorem own_shut {e : TypeId} {base g cap : Nat} {cur : Array Value} {d : Array α} (hk : ∀ x, (enc x).length = k) (h0 : 0 < k) (hg : W.heap[g]? = some (.cells cur e (0, 0))) (hb : base ≤ g) (hs : cur.size = cap * k) (hc : cap ≤ maxLen) (hF : Flat enc k cur d) (l : List α) (hl : l <+: d.toList) (hn : l.length ≤ cap) :
  W.ownsRow base e k (.slice (some ⟨g, 0, none⟩) l.length cap) l.length (l.flatMap enc) := by
 refine ⟨flat_len hk l, .inr ⟨g, cap, cur, rfl, hb, hg, hn, hc, hs, ?_⟩⟩
 obtain ⟨r, hr⟩ := hl
 have h1 := take_of_flat hk h0 hF
 have h2 : l.length * k ≤ d.size * k := Nat.mul_le_mul_right _ (by rw [← Array.length_toList, ← hr]; simp)
 have h3 := congrArg (List.take (l.length * k)) h1
 rw [List.take_take, Nat.min_eq_left h2, ← hr, List.flatMap_append, List.take_left' (flat_len hk l)] at h3
 exact h3
end
end Go.Proofs.SymP
/- strings.Compare at this translation, by the shelf's contract; the comparing closure of subst.Both: no condition. -/
namespace Go.Proofs.YtghommaokdhjmaaGreat.Str
open Go.Shelf Go.RowKit Go.Lib
def ren : Ren := ⟨fun x => if x = 106 then 117 else if x = 213 then 132 else if x = 265 then 150 else x, fun x => if x = 3 then 3 else if x = 9 then 9 else x, fun x => x⟩
set_option maxRecDepth 1000000 in
theorem lays : Lays.n106 Tryz.prog ren := by
 refine ⟨by kernel_rfl, ?_, ?_, ?_, ?_, ?_, ?_, ?_, ?_, ?_, ?_, ?_⟩ <;> first | kernel_rfl | (intro w; kernel_rfl)
def cmpS (a b : ByteArray) : Int := Lib.compareBytes a.data.toList b.data.toList
theorem compare (a b : ByteArray) (w : World) : Calls Tryz.prog 117 #[.string a, .string b] w fun e w' => e = .returned (.int .i64 (cmpS a b)) ∧ w' = w :=
 Any.strings_Compare (ρ := ren) lays a b w
theorem compareBytes_swap : ∀ (a b : List UInt8), Lib.compareBytes a b = - Lib.compareBytes b a := by
 intro a
 induction a with
 | nil => intro b; cases b <;> simp [Lib.compareBytes]
 | cons x a ih =>
  intro b
  cases b with
  | nil => simp [Lib.compareBytes]
  | cons y b =>
   simp only [Lib.compareBytes]
   rcases Nat.lt_trichotomy x.toNat y.toNat with h | h | h
   ·have h1 : x < y := h
    have h2 : ¬ y < x := by intro h; exact absurd (show y.toNat < x.toNat from h) (by omega)
    simp [h1, h2]
   ·have e : x = y := UInt8.toNat_inj.1 h
    subst e
    simp [UInt8.lt_irrefl, ih b]
   ·have h1 : y < x := h
    have h2 : ¬ x < y := by intro h; exact absurd (show x.toNat < y.toNat from h) (by omega)
    simp [h1, h2]
end Go.Proofs.YtghommaokdhjmaaGreat.Str
/- slices.Concat at []Bind of two rows: a row of the call's own that holds both, one behind the other; at most 100 elements each. -/
namespace Go.Proofs.YtghommaokdhjmaaGreat.BothB
open Go.Shelf Go.RowKit Go.Lib Go.Sort Go.Proofs.SymP Go.Proofs.YtghommaokdhjmaaGreatW.PrintWords P
def encB (x : S66) : List Value := [.string x.f0, .int .i64 x.f1.f0, .int .i64 x.f1.f1, .string x.f1.f2]
instance : Inhabited S66 := ⟨z66⟩
theorem encB_len (x : S66) : (encB x).length = 4 := rfl
theorem encB_one (x : S66) : ∀ u ∈ encB x, u.oneCell' = true := by
 intro u hu
 simp only [encB, List.mem_cons, List.not_mem_nil, or_false] at hu
 rcases hu with rfl | rfl | rfl | rfl <;> rfl
theorem encB_K {w : World} {x : S66} {cs : List Value} (h : k66.K w x cs) : cs = encB x := k66_open h
theorem encB_M {w : World} {base : Nat} {ok : Nat → Prop} {x : S66} : k66.M w base ok x (encB x) := k66_mkM w base ok x
def renG : Ren := ⟨fun x => if x = 4 then 130 else x, fun x => if x = 3 then 3 else if x = 4 then 4 else if x = 9 then 9 else if x = 20 then 20 else if x = 22 then 29 else if x = 25 then 66 else x, fun x => x⟩
set_option maxRecDepth 1000000 in
theorem laysG : Lays8.n4 Tryz.prog renG := by
 refine ⟨by kernel_rfl, ⟨ "slices.Grow[[]constable/api.Bind,constable/api.Bind]", by decide, by kernel_rfl⟩, ?_, ?_, ?_, ?_, ?_, ?_, ?_, ?_, ?_, ?_, ?_, ?_, ?_, ?_, ?_, ?_, ?_, ?_, ?_, ?_, ?_, ?_, ?_, ?_⟩ <;> first | kernel_rfl | (intro w; kernel_rfl)
theorem infoB : ∃ i : TypeInfo, Tryz.prog.info? 66 = some i ∧ i.zero = some (.agg #[(.string ⟨#[]⟩), (.int .i64 0), (.int .i64 0), (.string ⟨#[]⟩)]) ∧ i.size = 4 ∧ i.bytes = 48 := by
 have h := info66
 cases hi : Tryz.prog.info? 66 with
 | none => rw [hi] at h; cases h
 | some i =>
  rw [hi] at h
  simp only [Option.map_some, Option.some.injEq, Prod.mk.injEq] at h
  exact ⟨i, rfl, h.1, h.2.1, h.2.2⟩
theorem grow_nil (n : Nat) (hn : n ≤ 1000) (w : World) :
  Calls Tryz.prog 130 #[.slice none 0 0, .int .i64 n] w fun e w' => ∃ v, e = .returned v ∧ w'.ownsRow w.heap.size 66 4 v 0 [] ∧ Go.RowKit.Below w.heap.size w w' := by
 obtain ⟨i, hi, hz, hs, hb⟩ := infoB
 by_cases h0 : n = 0
 ·subst h0
  refine (Any8.slices_Grow_room (ρ := renG) laysG none 0 0 0 w (by omega) (by omega) (by omega) (by omega)).mono ?_
  rintro e w' ⟨rfl, rfl⟩
  exact ⟨_, rfl, ⟨rfl, .inl ⟨rfl, rfl⟩⟩, Go.RowKit.Below.refl _ _⟩
 ·refine (Any8.slices_Grow_grow (ρ := renG) laysG i _ hi hz (by omega) none 0 0 n [] w (by omega) (by omega) (by rw [hb]; omega) (by omega) (by simp) (fun _ => rfl) (fun a h => by cases h)).mono ?_
  rintro e w' ⟨rfl, rfl⟩
  refine ⟨_, rfl, ⟨rfl, .inr ⟨w.heap.size, _, _, rfl, Nat.le_refl _, heap_alloc_new _ _, Nat.zero_le _, ?_, ?_, by simp⟩⟩, (Go.RowKit.Below.refl _ _).drew.alloc (Nat.le_refl _) _⟩
  ·exact grownCap_le_maxLen _ _ _ _ (by unfold maxLen; omega)
  ·have := grownCap_ge w n 0 (renG.t 25)
   simp only [List.toArray, Array.size_append, size_zeroCells, Value.cells, List.size_toArray]
   simp
   omega

theorem grown_below {B : Nat} {a w w' : World} {v : Value} (h : Go.RowKit.Below B a w) (hg : w.grownBy w' v.ownBlock) (hB : B ≤ w.heap.size) {e : TypeId} {k n : Nat} {xs : List Value} (ho : w.ownsRow B e k v n xs) : Go.RowKit.Below B a w' := h.grown hg hB (fun k hk => (ho.lt k hk).1)

set_option maxHeartbeats 8000000 in
set_option maxRecDepth 1000000 in
theorem concat (A0 : Option Addr) (c0 : Nat) (l0 : List S66) (A1 : Option Addr) (c1 : Nat) (l1 : List S66) (bb : Nat) (w : World) (hb0 : w.cell? ⟨bb, 0, none⟩ = some (.slice A0 l0.length c0)) (hb1 : w.cell? ⟨bb, 1, none⟩ = some (.slice A1 l1.length c1)) (hbb : bb < w.heap.size)
  (hr0 : Kd.C k66 w A0 l0.length l0) (hr1 : Kd.C k66 w A1 l1.length l1) (hl0 : l0.length ≤ 100) (hl1 : l1.length ≤ 100) :
  Calls Tryz.prog 114 #[.slice (some ⟨bb, 0, none⟩) 2 2] w fun e w' => ∃ v, e = .returned v ∧ w'.ownsRow w.heap.size 66 4 v (l0 ++ l1).length ((l0 ++ l1).flatMap encB) ∧ Go.RowKit.Below w.heap.size w w' := by
 have R0 : Aside (Kd.C k66 w A0 l0.length l0) := hr0
 have R1 : Aside (Kd.C k66 w A1 l1.length l1) := hr1
 clear hr0 hr1
 obtain ⟨n0, hn0⟩ : ∃ n, n = l0.length := ⟨_, rfl⟩
 obtain ⟨n1, hn1⟩ : ∃ n, n = l1.length := ⟨_, rfl⟩
 have N0 : Hid (n0 = l0.length) := hn0
 have N1 : Hid (n1 = l1.length) := hn1
 rw [← hn0] at hb0 hl0
 rw [← hn1] at hb1 hl1
 clear hn0 hn1
 have p0 : ¬ (n0 : Int) < 0 := by omega
 have p1 : ¬ (n0 : Int) + (n1 : Int) < 0 := by omega
 have eg : ∀ args w, (callFunc 130 args).run Tryz.prog w = .ok (.enter 130 args) w := laysG.f4.enters rfl
 go_enter Tryz.func114, Tryz.ntmps114
 go_wp2
 go_loopg [3, 11] 2 (fun kx s3 s11 wr => ∃ (i : Nat), s11 = .int .i64 i ∧ s3 = .int .i64 (if i = 0 then 0 else if i = 1 then (n0 : Int) else (n0 : Int) + (n1 : Int)) ∧ i ≤ 2 ∧ 2 - i ≤ kx ∧ w = wr)
 case atStart => exact ⟨0, rfl, rfl, by omega, by omega, rfl⟩
 case round =>
  obtain ⟨i, rfl, rfl, hi, hkx, rfl⟩ := hrel
  rcases (show i = 0 ∨ i = 1 ∨ i = 2 by omega) with rfl | rfl | rfl
  ·simp only [if_true]
   go_wp2_with fail
   go_roundg 1
   case measure => omega
   case rel => exact ⟨1, rfl, rfl, by omega, by omega, rfl⟩
  ·simp only [if_true, if_neg (show ¬ (1 : Nat) = 0 by decide)]
   go_wp2_with fail
   go_roundg 0
   case measure => omega
   case rel => exact ⟨2, rfl, rfl, by omega, by omega, rfl⟩
  ·simp only [if_neg (show ¬ (2 : Nat) = 1 by decide), if_neg (show ¬ (2 : Nat) = 0 by decide)]
   have hG := grow_nil (n0 + n1) (by omega) w
   rw [show ((n0 + n1 : Nat) : Int) = (n0 : Int) + (n1 : Int) by omega] at hG
   go_wp2_with (go_at_fn 130; refine hG.mono ?_; rintro e w1 ⟨v0, rfl, ho, hB⟩)
   have HO1 : Aside (w1.ownsRow w.heap.size 66 4 v0 0 []) := ho
   have HB1 : Aside (Go.RowKit.Below w.heap.size w w1) := hB
   clear ho hB hG
   obtain ⟨ti, hti, hz, hs, hby⟩ := infoB
   have TS : Tryz.prog.underlying 29 = some (.slice 66) := laysG.t22
   go_loopg [6, 27] 2 (fun kx s6 s27 wr => ∃ (i : Nat) (v : Value), s27 = .int .i64 i ∧ v = s6 ∧ i ≤ 2 ∧ 2 - i ≤ kx ∧ Aside (wr.ownsRow w.heap.size 66 4 v (if i = 0 then [] else if i = 1 then [] ++ l0 else [] ++ l0 ++ l1).length ((if i = 0 then [] else if i = 1 then [] ++ l0 else [] ++ l0 ++ l1).flatMap encB)) ∧ Aside (Go.RowKit.Below w.heap.size w wr))
   case atStart => exact ⟨0, v0, rfl, rfl, by omega, by omega, HO1, HB1⟩
   case round =>
    clear HO1 HB1
    obtain ⟨i, v, rfl, rfl, hi, hkx, HO, HB⟩ := hrel
    have hb0' := (HB.out.cell (p := ⟨bb, 0, none⟩) hbb).trans hb0
    have hb1' := (HB.out.cell (p := ⟨bb, 1, none⟩) hbb).trans hb1
    rcases (show i = 0 ∨ i = 1 ∨ i = 2 by omega) with rfl | rfl | rfl
    ·have HC0 := (Kd.C_below R0.out HB.out)
     obtain ⟨v2, w2, happ, ho2, hg2, _⟩ := append_C (P := Tryz.prog) (kd := k66) encB_K encB_len (by decide) rfl encB_one w.heap.size 29 66 ti _ TS hti hz hs (by rfl) v [] HO.out A0 l0 c0 HC0 (fun _ => Or.inr trivial) (by rw [hby]; have := N0.out; have := N1.out; simp only [List.length_append, List.length_nil]; omega) (by have := N0.out; have := N1.out; simp only [List.length_append, List.length_nil]; omega) HB.out.size
     have HB2 : Aside (Go.RowKit.Below w.heap.size w w2) := grown_below HB.out hg2 HB.out.size HO.out
     have HO2 : Aside _ := ho2
     rw [← N0.out] at happ
     clear ho2 hg2 HC0 HB HO hz
     go_wp2_with (at_builtin; refine Lib.wpList_append_run _ rfl _ _ _ _ rfl _ _ rfl rfl _ _ (happ _) ?_)
     go_roundg 1
     case measure => omega
     case rel => exact ⟨1, v2, rfl, rfl, by omega, by omega, HO2, HB2⟩
    ·have HC1 := (Kd.C_below R1.out HB.out)
     obtain ⟨v2, w2, happ, ho2, hg2, _⟩ := append_C (P := Tryz.prog) (kd := k66) encB_K encB_len (by decide) rfl encB_one w.heap.size 29 66 ti _ TS hti hz hs (by rfl) v ([] ++ l0) HO.out A1 l1 c1 HC1 (fun _ => Or.inr trivial) (by rw [hby]; have := N0.out; have := N1.out; simp only [List.length_append, List.length_nil]; omega) (by have := N0.out; have := N1.out; simp only [List.length_append, List.length_nil]; omega) HB.out.size
     have HB2 : Aside (Go.RowKit.Below w.heap.size w w2) := grown_below HB.out hg2 HB.out.size HO.out
     have HO2 : Aside _ := ho2
     rw [← N1.out] at happ
     clear ho2 hg2 HC1 HB HO hz
     go_wp2_with (at_builtin; refine Lib.wpList_append_run _ rfl _ _ _ _ rfl _ _ rfl rfl _ _ (happ _) ?_)
     go_roundg 0
     case measure => omega
     case rel => exact ⟨2, v2, rfl, rfl, by omega, by omega, HO2, HB2⟩
    ·have HO2 : Aside (wr.ownsRow w.heap.size 66 4 v (l0 ++ l1).length ((l0 ++ l1).flatMap encB)) := HO
     go_wp2_with fail
     go_ret
     exact ⟨_, rfl, HO2.out, HB.out⟩
end Go.Proofs.YtghommaokdhjmaaGreat.BothB
/- The order of two texts: an order in which what compares 0 is the same. -/
namespace Go.Proofs.YtghommaokdhjmaaGreat.Str
open Go.Lib
theorem cb_zero : ∀ (a b : List UInt8), compareBytes a b = 0 ↔ a = b := by
 intro a
 induction a with
 | nil => intro b; cases b <;> simp [compareBytes]
 | cons x a ih =>
  intro b
  cases b with
  | nil => simp [compareBytes]
  | cons y b =>
   simp only [compareBytes]
   by_cases h1 : x < y
   ·have : x ≠ y := fun e => by subst e; exact UInt8.lt_irrefl _ h1
    simp [h1, this]
   ·by_cases h2 : y < x
    ·have : x ≠ y := fun e => by subst e; exact UInt8.lt_irrefl _ h2
     simp [h1, h2, this]
    ·have e : x = y := by
      apply UInt8.toNat_inj.1
      have h3 : ¬ x.toNat < y.toNat := h1
      have h4 : ¬ y.toNat < x.toNat := h2
      omega
     simp [h1, h2, e, ih b]
theorem cb_le : ∀ (a b c : List UInt8), compareBytes a b ≤ 0 → compareBytes b c ≤ 0 → compareBytes a c ≤ 0 := by
 intro a
 induction a with
 | nil => intro b c _ _; cases c <;> simp [compareBytes]
 | cons x a ih =>
  intro b c h1 h2
  cases b with
  | nil => simp [compareBytes] at h1
  | cons y b =>
   cases c with
   | nil => simp [compareBytes] at h2
   | cons z c =>
    simp only [compareBytes] at h1 h2 ⊢
    have lt : ∀ p q : UInt8, p < q ↔ p.toNat < q.toNat := fun p q => Iff.rfl
    simp only [lt] at h1 h2 ⊢
    split at h1
    ·split at h2
     ·rw [if_pos (by omega)]; omega
     ·split at h2
      ·omega
      ·rw [if_pos (by omega)]; omega
    ·split at h1
     ·omega
     ·split at h2
      ·rw [if_pos (by omega)]; omega
      ·split at h2
       ·omega
       ·rw [if_neg (by omega), if_neg (by omega)]
        exact ih b c h1 h2
theorem cmpS_zero (a b : ByteArray) : cmpS a b = 0 ↔ a = b := by
 unfold cmpS
 rw [cb_zero, Array.toList_inj]
 constructor
 ·intro h; cases a; cases b; simp at h; rw [h]
 ·intro h; rw [h]
theorem cmpS_swap (a b : ByteArray) : cmpS a b = - cmpS b a := compareBytes_swap _ _
theorem cmpS_le (a b c : ByteArray) (h1 : cmpS a b ≤ 0) (h2 : cmpS b c ≤ 0) : cmpS a c ≤ 0 := cb_le _ _ _ h1 h2
theorem cmpS_self (a : ByteArray) : cmpS a a = 0 := (cmpS_zero a a).2 rfl
theorem cmpS_lt {a b c : ByteArray} (h1 : cmpS a b < 0) (h2 : cmpS b c < 0) : cmpS a c < 0 := by
 have h3 := cmpS_le a b c (by omega) (by omega)
 rcases Int.lt_or_eq_of_le h3 with h | h
 ·exact h
 ·have e := (cmpS_zero a c).1 h
  subst e
  have := cmpS_swap a b
  omega
end Go.Proofs.YtghommaokdhjmaaGreat.Str
/- The comparing closure of subst.Both: strings.Compare of the names; a strict weak order. -/
namespace Go.Proofs.YtghommaokdhjmaaGreat.BothB
open Go.Shelf Go.RowKit Go.Lib Go.Sort Go.Proofs.SymP Go.Proofs.YtghommaokdhjmaaGreatW.PrintWords P Str
def cfB (x y : S66) : Int := cmpS x.f0 y.f0
theorem swoB : SWO (ltOf cfB) where
 irrefl x := decide_eq_false (by show ¬ cmpS x.f0 x.f0 < 0; rw [cmpS_self]; omega)
 trans x y z h1 h2 := decide_eq_true (cmpS_lt (of_decide_eq_true h1) (of_decide_eq_true h2))
 ntrans x y z h1 h2 := by
  have h1 : ¬ cmpS x.f0 y.f0 < 0 := of_decide_eq_false h1
  have h2 : ¬ cmpS y.f0 z.f0 < 0 := of_decide_eq_false h2
  have a := cmpS_swap x.f0 y.f0
  have b := cmpS_swap y.f0 z.f0
  have c := cmpS_swap x.f0 z.f0
  have := cmpS_le z.f0 y.f0 x.f0 (by omega) (by omega)
  exact decide_eq_false (by show ¬ cmpS x.f0 z.f0 < 0; omega)
set_option maxHeartbeats 1000000 in
set_option maxRecDepth 1000000 in
theorem closure (x y : S66) (W : World) : Calls Tryz.prog 116 #[.agg #[.string x.f0, .int .i64 x.f1.f0, .int .i64 x.f1.f1, .string x.f1.f2], .agg #[.string y.f0, .int .i64 y.f1.f0, .int .i64 y.f1.f1, .string y.f1.f2]] W fun e w' => e = .returned (.int .i64 (cfB x y)) ∧ ∃ q os', w' = grow (W.drewN q) os' := by
 have hu := Tryz.underlying66
 have hcon := fun W' => compare x.f0 y.f0 W'
 unfold cfB
 generalize cmpS x.f0 y.f0 = r at hcon ⊢
 have eg : ∀ args w, (callFunc 117 args).run Tryz.prog w = .ok (.enter 117 args) w := enters_of Tryz.func117 (by kernel_rfl) rfl
 go_enter Tryz.func116, Tryz.ntmps116
 go_wp2_with (go_at_fn 117; refine (hcon _).mono ?_; rintro e w' ⟨rfl, rfl⟩)
 go_ret
 exact ⟨rfl, 0, _, by rw [alloc_eq_grow, alloc_eq_grow, grow_grow]; rfl⟩
theorem cmpLays (blk off size : Nat) (w : World) : CmpLays Tryz.prog 116 #[] encB 4 cfB blk off size w :=
 fun _ _ _ _ x y => closure x y _
end Go.Proofs.YtghommaokdhjmaaGreat.BothB
/- Two Binds compared with == and !=; the plain compaction and the plain sort of a list of Binds; where the compaction of one sorted arrangement is right the arrangement is the only one. -/
namespace Go.Proofs.YtghommaokdhjmaaGreat.BothB
open Go.Shelf Go.RowKit Go.Lib Go.Sort Go.Proofs.SymP Go.Proofs.YtghommaokdhjmaaGreatW.PrintWords P Str PSpec
def sameB (x y : S66) : Bool := x.f0.toList == y.f0.toList && ((x.f1.f0 == y.f1.f0 && (x.f1.f1 == y.f1.f1 && (x.f1.f2.toList == y.f1.f2.toList))))
theorem sameB_iff (x y : S66) : sameB x y = true ↔ x = y := by
 obtain ⟨x0, x1, x2, x3⟩ := x
 obtain ⟨y0, y1, y2, y3⟩ := y
 unfold sameB
 have e : ∀ a b : ByteArray, a.toList = b.toList ↔ a = b := fun a b => by rw [← bytes_beq_iff, beq_iff_eq]
 simp only [Bool.and_eq_true, beq_iff_eq, S66.mk.injEq, S64.mk.injEq, e]
instance : DecidableEq S66 := fun x y => decidable_of_iff _ (sameB_iff x y)
theorem same_dec (x y : S66) : sameB x y = decide (x = y) := by
 by_cases h : x = y
 ·rw [decide_eq_true h]; exact (sameB_iff x y).2 h
 ·rw [decide_eq_false h]
  cases hs : sameB x y
  ·rfl
  ·exact absurd ((sameB_iff x y).1 hs) h
theorem heq (x y : S66) (w : World) : (binOp .eql 66 (.agg (encB x).toArray) (.agg (encB y).toArray)).run Tryz.prog w = .ok (.bool (decide (x = y))) w := by
 have h := eqA66 (Op.maxDepth - 3) w x.f0 y.f0 x.f1.f0 y.f1.f0 x.f1.f1 y.f1.f1 x.f1.f2 y.f1.f2
 change Sem.run Tryz.prog (Op.equal 66 (.agg (encB x).toArray) (.agg (encB y).toArray)) w = .ok (sameB x y) w at h
 rw [same_dec] at h
 simp [binOp, h]
theorem hne (x y : S66) (w : World) : (binOp .neq 66 (.agg (encB x).toArray) (.agg (encB y).toArray)).run Tryz.prog w = .ok (.bool (!decide (x = y))) w := by
 have h := eqA66 (Op.maxDepth - 3) w x.f0 y.f0 x.f1.f0 y.f1.f0 x.f1.f1 y.f1.f1 x.f1.f2 y.f1.f2
 change Sem.run Tryz.prog (Op.equal 66 (.agg (encB x).toArray) (.agg (encB y).toArray)) w = .ok (sameB x y) w at h
 rw [same_dec] at h
 simp [binOp, h]
theorem hgd (op : BinOp) (a b : Operand) (x y : S66) (w : World) : Sem.run Tryz.prog (eqGuard op 66 a b (.agg (encB x).toArray) (.agg (encB y).toArray)) w = .ok () w := by
 have h : Tryz.prog.eqGuardType Tryz.prog.depth 66 = false := by kernel_rfl
 cases op <;> simp [eqGuard, h]
theorem zeroB (w : World) : (zeroValue 66).run Tryz.prog w = .ok (.agg (encB z66).toArray) w := by kernel_rfl

theorem less_iff (a b : ByteArray) : Op.bytesLess a.toList b.toList = true ↔ cmpS a b < 0 := by
 have h : ∀ x y : List UInt8, Op.bytesLess x y = true ↔ Lib.compareBytes x y < 0 := by
  intro x
  induction x with
  | nil => intro y; cases y <;> simp [Op.bytesLess, Lib.compareBytes]
  | cons p x ih =>
   intro y
   cases y with
   | nil => simp [Op.bytesLess, Lib.compareBytes]
   | cons q y =>
    simp only [Op.bytesLess, Lib.compareBytes, Bool.or_eq_true, Bool.and_eq_true, decide_eq_true_eq, beq_iff_eq, ih y]
    by_cases h1 : p < q
    ·simp [h1]
    ·by_cases h2 : q < p
     ·have : p ≠ q := fun e => by subst e; exact UInt8.lt_irrefl _ h2
      simp [h1, h2, this]
     ·have e : p = q := by
       apply UInt8.toNat_inj.1
       have h3 : ¬ p.toNat < q.toNat := h1
       have h4 : ¬ q.toNat < p.toNat := h2
       omega
      simp [h1, h2, e]
 have e : ∀ s : ByteArray, s.toList = s.data.toList := fun s => ByteArray.toList_eq s
 rw [e, e]
 exact h _ _
def Sorted (l : List S66) : Prop := l.Pairwise fun x y => cfB x y ≤ 0
def insB (x : S66) : List S66 → List S66
 | [] => [x]
 | y :: l => if cfB x y ≤ 0 then x :: y :: l else y :: insB x l
def sortB (l : List S66) : List S66 := l.foldr insB []
theorem insB_perm (x : S66) : ∀ l, (insB x l).Perm (x :: l)
 | [] => List.Perm.refl _
 | y :: l => by
  unfold insB
  split
  ·exact List.Perm.refl _
  ·exact ((insB_perm x l).cons y).trans (List.Perm.swap _ _ _)
theorem sortB_perm : ∀ l : List S66, (sortB l).Perm l
 | [] => List.Perm.refl _
 | x :: l => (insB_perm x (sortB l)).trans ((sortB_perm l).cons x)
theorem cf_le {x y z : S66} (h1 : cfB x y ≤ 0) (h2 : cfB y z ≤ 0) : cfB x z ≤ 0 := cmpS_le _ _ _ h1 h2
theorem insB_sorted (x : S66) : ∀ l, Sorted l → Sorted (insB x l)
 | [], _ => List.pairwise_singleton _ _
 | y :: l, h => by
  have h2 := List.pairwise_cons.1 h
  unfold insB
  split
  ·rename_i hc
   exact List.pairwise_cons.2 ⟨fun z hz => by
    rcases List.mem_cons.1 hz with rfl | hz
    ·exact hc
    ·exact cf_le hc (h2.1 z hz), h⟩
  ·rename_i hc
   refine List.pairwise_cons.2 ⟨fun z hz => ?_, insB_sorted x l h2.2⟩
   have hz' := (insB_perm x l).mem_iff.1 hz
   rcases List.mem_cons.1 hz' with rfl | hz'
   ·have := cmpS_swap z.f0 y.f0
    unfold cfB at *
    omega
   ·exact h2.1 z hz'
theorem sortB_sorted : ∀ l : List S66, Sorted (sortB l)
 | [] => List.Pairwise.nil
 | x :: l => insB_sorted x _ (sortB_sorted l)

theorem allFrom_iff (t : Nat → Bool) : ∀ (m i : Nat), allFrom t m i = true ↔ ∀ j, i ≤ j → j < i + m → t j = true
 | 0, i => by simp [allFrom]; intro j h1 h2; omega
 | m + 1, i => by
  rw [allFrom, Bool.and_eq_true, allFrom_iff t m (i + 1)]
  constructor
  ·rintro ⟨h1, h2⟩ j h3 h4
   by_cases e : j = i
   ·subst e; exact h1
   ·exact h2 j (by omega) (by omega)
  ·intro h
   exact ⟨h i (Nat.le_refl _) (by omega), fun j h1 h2 => h j (by omega) (by omega)⟩
theorem chkP_zero (l : List S66) : chkP l = 0 ↔ l.length ≤ 100 ∧ ∀ i, i < l.length → chkT l i = true := by
 unfold chkP
 by_cases h : l.length > 100
 ·rw [if_pos h]; constructor
  ·intro h; cases h
  ·intro h2; omega
 ·rw [if_neg h]
  by_cases h2 : allFrom (chkT l) l.length 0 = true
  ·rw [if_pos h2]
   have := (allFrom_iff _ _ _).1 h2
   exact ⟨fun _ => ⟨by omega, fun i hi => this i (Nat.zero_le _) (by omega)⟩, fun _ => rfl⟩
  ·rw [if_neg h2]
   constructor
   ·intro h; cases h
   ·intro h3; exact absurd ((allFrom_iff _ _ _).2 fun j _ hj => h3.2 j (by omega)) h2
theorem rd_get {l : List S66} {i : Nat} (hi : i < l.length) : rd_T66 l i = l[i] := by
 unfold rd_T66
 rw [Int.toNat_natCast, List.getD_eq_getElem?_getD, List.getElem?_eq_getElem hi]; rfl
theorem chk_step {l : List S66} (h : chkP l = 0) {i : Nat} (hi : i + 1 < l.length) : cfB l[i] l[i + 1] < 0 := by
 have := ((chkP_zero l).1 h).2 (i + 1) hi
 unfold chkT at this
 simp only [Bool.and_eq_true, Bool.or_eq_true, Nat.add_sub_cancel] at this
 rcases this.2 with h0 | h0
 ·simp at h0
 ·rw [less_iff, rd_get (by omega), rd_get hi] at h0
  exact h0
theorem chk_asc {l : List S66} (h : chkP l = 0) : ∀ (j i : Nat) (hij : i < j) (hj : j < l.length), cfB l[i] l[j] < 0 := by
 intro j
 induction j with
 | zero => intro i hij; omega
 | succ j ih =>
  intro i hij hj
  have h1 := chk_step h hj
  by_cases e : i = j
  ·subst e; exact h1
  ·exact cmpS_lt (ih i (by omega) (by omega)) h1
theorem chk_same {l : List S66} (h : chkP l = 0) {x y : S66} (hx : x ∈ l) (hy : y ∈ l) (he : cfB x y = 0) : x = y := by
 obtain ⟨i, hi, rfl⟩ := List.mem_iff_getElem.1 hx
 obtain ⟨j, hj, rfl⟩ := List.mem_iff_getElem.1 hy
 rcases Nat.lt_trichotomy i j with h1 | h1 | h1
 ·have := chk_asc h j i h1 hj; omega
 ·subst h1; rfl
 ·have h2 := chk_asc h i j h1 hi
  have h3 := cmpS_swap l[i].f0 l[j].f0
  unfold cfB at *
  omega
theorem mem_compact {d : Array S66} : ∀ (m j : Nat), m ≤ d.size → j < m → d[j]! ∈ compactUpTo d m
 | 0, j, _, h => by omega
 | m + 1, j, hm, hj => by
  rw [compactUpTo_succ]
  by_cases e : j = m
  ·subst e
   by_cases hk : keeps d j = true
   ·rw [if_pos hk]; exact List.mem_append_right _ (List.mem_singleton.2 rfl)
   ·rw [if_neg hk, List.append_nil]
    unfold keeps at hk
    rw [decide_eq_true_eq] at hk
    have h1 : j ≠ 0 := fun h => hk (.inl h)
    have h2 : d[j]! = d[j - 1]! := Classical.byContradiction fun h => hk (.inr h)
    rw [h2]
    exact mem_compact j (j - 1) (by omega) (by omega)
  ·exact List.mem_append_left _ (mem_compact m j (by omega) (by omega))
theorem compact_sub {d : Array S66} {m : Nat} (hm : m ≤ d.size) {x : S66} (h : x ∈ compactUpTo d m) : x ∈ d.toList := by
 unfold compactUpTo at h
 obtain ⟨j, hj, rfl⟩ := List.mem_map.1 h
 have hj' := List.mem_range.1 (List.mem_filter.1 hj).1
 rw [getElem!_pos d j (by omega)]
 exact Array.mem_toList_iff.2 (Array.getElem_mem _)
theorem mem_compact_iff {d : Array S66} {x : S66} : x ∈ compactUpTo d d.size ↔ x ∈ d.toList := by
 constructor
 ·exact compact_sub (Nat.le_refl _)
 ·intro h
  obtain ⟨j, hj, rfl⟩ := Array.mem_iff_getElem.1 (Array.mem_toList_iff.1 h)
  have := mem_compact d.size j (Nat.le_refl _) hj
  rwa [getElem!_pos d j hj] at this
theorem sorted_only {d d' : Array S66} (hp : d.toList.Perm d'.toList) (h1 : Sorted d.toList) (h2 : Sorted d'.toList) (hc : chkP (compactUpTo d d.size) = 0) : d = d' := by
 apply Array.toList_inj.1
 refine List.Perm.eq_of_pairwise (le := fun x y => cfB x y ≤ 0) (fun x y hx hy hxy hyx => ?_) h1 h2 hp
 refine chk_same hc (mem_compact_iff.2 hx) (mem_compact_iff.2 (hp.mem_iff.2 hy)) ?_
 have := cmpS_swap x.f0 y.f0
 unfold cfB at *
 omega
end Go.Proofs.YtghommaokdhjmaaGreat.BothB
/- subst.Both: its walk, and what it answers as a plain function; the rows' texts no longer than a million bytes. -/
namespace Go.Proofs.YtghommaokdhjmaaGreat.BothB
open Go.Shelf Go.RowKit Go.Lib Go.Sort Go.Proofs.SymP Go.Proofs.YtghommaokdhjmaaGreatW.PrintWords P Str PSpec
theorem aggB : ∀ w, (isAgg 66).run Tryz.prog w = .ok true w := fun w => by kernel_rfl
theorem sizeB : ∀ w, (Go.sizeOf 66).run Tryz.prog w = .ok 4 w := fun w => by kernel_rfl
theorem perm_list {d d' : Array S66} {n : Nat} (hn : n = d.size) (h : PermIn 0 n d d') : d.toList.Perm d'.toList := by
 subst hn
 have h3 := h.2.2
 rw [show d.extract 0 d.size = d by simp, show d'.extract 0 d.size = d' by rw [← h.1]; simp] at h3
 exact h3.symm
theorem sorted_list {d : Array S66} {n : Nat} (hn : n = d.size) (h : SortedIn (ltOf cfB) 0 n d) : Sorted d.toList := by
 subst hn
 refine List.pairwise_iff_getElem.2 fun i j hi hj hij => ?_
 have hi' : i < d.size := by simpa using hi
 have hj' : j < d.size := by simpa using hj
 have h1 := h i j (Nat.zero_le _) hij hj'
 have h2 : ¬ cfB d[j]! d[i]! < 0 := of_decide_eq_false h1
 rw [getElem!_pos d i hi', getElem!_pos d j hj'] at h2
 have := cmpS_swap d[i].f0 d[j].f0
 simp only [Array.getElem_toList]
 unfold cfB at *
 omega
theorem sortC (base : Nat) (v : Value) (l : List S66) (hl : l.length ≤ 20) (w : World) (ho : w.ownsRow base 66 4 v l.length (l.flatMap encB)) (hb : base ≤ w.heap.size) :
  Calls Tryz.prog 115 #[v, .func (.func 116) #[] #[]] w fun e w' => e = .returned (.tuple #[]) ∧ ∃ m : List S66, m.Perm l ∧ Sorted m ∧ w'.ownsRow base 66 4 v m.length (m.flatMap encB) ∧ Go.RowKit.Below base w w' := by
 rcases ho.2 with ⟨rfl, h0⟩ | ⟨g, cap, cur, rfl, hbg, hg, hn, hc, hs, ht⟩
 ·have hl0 : l = [] := List.length_eq_zero_iff.1 h0
  subst hl0
  refine (SortB.sort_nil SortB.lays Tryz.func148 _ _ w).mono ?_
  rintro e w' ⟨rfl, hB⟩
  exact ⟨rfl, [], List.Perm.refl _, List.Pairwise.nil, ⟨rfl, .inl ⟨rfl, rfl⟩⟩, hB.mono hb⟩
 ·have hgl : g < w.heap.size := (Array.getElem?_eq_some_iff.1 hg).1
  have hF := flat_of_take encB_len (by decide) (by rw [hs]; exact Nat.mul_le_mul_right _ hn) ht
  have R : RowK encB 4 w g 0 l.toArray := ⟨encB_len, encB_one, holds_of_flat hg hF, hgl⟩
  have eg : ∀ args w, (callFunc 116 args).run Tryz.prog w = .ok (.enter 116 args) w := enters_of Tryz.func116 (by kernel_rfl) rfl
  refine (SortB.sortStableFunc SortB.laysI SortB.lays 4 aggB sizeB encB cfB 116 #[] g 0 l.length w eg (cmpLays _ _ _ _) cap l.toArray l.toArray w R rfl rfl (SWK.start R.hH) swoB (by omega)).mono ?_
  rintro e w' ⟨rfl, d', hS, hp, hso⟩
  have hsz : d'.size = l.length := hp.1
  obtain ⟨cur', hg', hs', hF'⟩ := flat_swk hS hg (by rw [hsz, hs]; exact Nat.mul_le_mul_right _ hn)
  refine ⟨rfl, d'.toList, (perm_list rfl hp).symm, sorted_list hsz.symm hso, ?_, below_swk hS hbg hgl⟩
  have := own_shut (e := 66) encB_len (by decide) hg' hbg (hs'.trans hs) hc hF' d'.toList (List.prefix_refl _) (by rw [Array.length_toList, hsz]; exact hn)
  have e : d'.toList.length = l.length := by rw [Array.length_toList, hsz]
  rw [e] at this ⊢
  exact this
theorem own_lower {W : World} {base b' : Nat} {e : TypeId} {k n : Nat} {v : Value} {xs : List Value} (h : W.ownsRow base e k v n xs) (hb : b' ≤ base) : W.ownsRow b' e k v n xs :=
 ⟨h.1, h.2.imp id fun ⟨g, cap, cur, a, b, c⟩ => ⟨g, cap, cur, a, Nat.le_trans hb b, c⟩⟩
theorem compactC (base : Nat) (v : Value) (l : List S66) (hl : l.length ≤ 1000) (w : World) (ho : w.ownsRow base 66 4 v l.length (l.flatMap encB)) (hb : base ≤ w.heap.size) :
  Calls Tryz.prog 118 #[v] w fun e w' => ∃ v', e = .returned v' ∧ w'.ownsRow base 66 4 v' (compactUpTo l.toArray l.toArray.size).length ((compactUpTo l.toArray l.toArray.size).flatMap encB) ∧ Go.RowKit.Below base w w' := by
 rcases ho.2 with ⟨rfl, h0⟩ | ⟨g, cap, cur, rfl, hbg, hg, hn, hc, hs, ht⟩
 ·have hl0 : l = [] := List.length_eq_zero_iff.1 h0
  subst hl0
  refine (SortB.compact_nil SortB.lays Tryz.func118 w).mono ?_
  rintro e w' ⟨rfl, rfl⟩
  exact ⟨_, rfl, ⟨rfl, .inl ⟨rfl, rfl⟩⟩, Go.RowKit.Below.refl _ _⟩
 ·have hgl : g < w.heap.size := (Array.getElem?_eq_some_iff.1 hg).1
  have hF := flat_of_take encB_len (by decide) (by rw [hs]; exact Nat.mul_le_mul_right _ hn) ht
  have R : RowK encB 4 w g 0 l.toArray := ⟨encB_len, encB_one, holds_of_flat hg hF, hgl⟩
  refine (SortB.compact SortB.lays 4 aggB sizeB encB Tryz.func118 heq hne hgd z66 zeroB g 0 l.length cap l.toArray l.toArray w w R rfl rfl (SWK.start R.hH) (by omega) hn).mono ?_
  rintro e w' ⟨rfl, hS⟩
  have hlen : (compactUpTo l.toArray l.toArray.size).length ≤ l.length := by
   unfold compactUpTo
   rw [List.length_map]
   exact Nat.le_trans (List.length_filter_le _ _) (by simp)
  generalize compactUpTo l.toArray l.toArray.size = m at hS hlen ⊢
  have hsz : (m ++ List.replicate (l.toArray.size - m.length) z66).toArray.size = l.length := by simp; omega
  obtain ⟨cur', hg', hs', hF'⟩ := flat_swk hS hg (by rw [hsz, hs]; exact Nat.mul_le_mul_right _ hn)
  refine ⟨_, rfl, ?_, below_swk hS hbg hgl⟩
  exact own_shut (e := 66) encB_len (by decide) hg' hbg (hs'.trans hs) hc hF' m (by simp) (by omega)
end Go.Proofs.YtghommaokdhjmaaGreat.BothB
namespace Go.Proofs.YtghommaokdhjmaaGreat.P
open Go.Shelf Go.RowKit Go.Lib Go.Sort Go.Proofs.SymP Go.Proofs.YtghommaokdhjmaaGreatW.PrintWords Str PSpec BothB
def bothL (l : List S66) : List S66 := compactUpTo (sortB l).toArray (sortB l).toArray.size
def bothP (l0 l1 : List S66) : List S66 × Bool := if chkP l0 = 0 ∧ chkP l1 = 0 ∧ chkP (bothL (l0 ++ l1)) = 0 then (bothL (l0 ++ l1), true) else ([], false)
def subst_Both.f (l0 : List (S66)) (l1 : List (S66)) : Option ((List (S66)) × Bool) := if fitB l0 = true ∧ fitB l1 = true ∧ l0.length + l1.length ≤ 20 then some (bothP l0 l1) else none
set_option maxHeartbeats 400000 in
set_option maxRecDepth 1000000 in
theorem subst_Both.calls (A0 : Option Addr) (c0 : Nat) (l0 : List (S66)) (A1 : Option Addr) (c1 : Nat) (l1 : List (S66)) (r1 : List (S66)) (r2 : Bool) (w : World) (hr0 : Kd.C k66 w A0 l0.length l0) (hc0 : l0.length ≤ c0) (hr1 : Kd.C k66 w A1 l1.length l1) (hc1 : l1.length ≤ c1) (h : subst_Both.f l0 l1 = some (r1, r2)) :
  Calls Tryz.prog 93 #[.slice A0 l0.length c0, .slice A1 l1.length c1] w fun e w' => ∃ v0_ : Value, e = .returned (.tuple #[v0_, .bool r2]) ∧ Kd.R k66 66 w' w.heap.size (fun _ => True) v0_ r1 ∧ Go.RowKit.Below w.heap.size w w' := by
 have hfit3 : fitB l0 = true ∧ fitB l1 = true ∧ l0.length + l1.length ≤ 20 := by
  unfold subst_Both.f at h
  by_cases hc : fitB l0 = true ∧ fitB l1 = true ∧ l0.length + l1.length ≤ 20
  ·exact hc
  ·rw [if_neg hc] at h; cases h
 have h20 := hfit3.2.2
 have hfit := And.intro hfit3.1 hfit3.2.1
 have hres : bothP l0 l1 = (r1, r2) := by
  unfold subst_Both.f at h
  rw [if_pos hfit3] at h
  exact Option.some.inj h
 clear h hfit3
 have HR := Aside0.mk hres
 have ck : ∀ args w, (callFunc 34 args).run Tryz.prog w = .ok (.enter 34 args) w := enters_of Tryz.func34 (by kernel_rfl) rfl
 have cc : ∀ args w, (callFunc 114 args).run Tryz.prog w = .ok (.enter 114 args) w := enters_of Tryz.func114 (by kernel_rfl) rfl
 have cs : ∀ args w, (callFunc 115 args).run Tryz.prog w = .ok (.enter 115 args) w := enters_of Tryz.func115 (by kernel_rfl) rfl
 have cp : ∀ args w, (callFunc 118 args).run Tryz.prog w = .ok (.enter 118 args) w := enters_of Tryz.func118 (by kernel_rfl) rfl
 have hc0' := chk_calls A0 c0 l0 w hr0 hc0 hfit.1
 have hfi : Aside0 (fitB l0 = true ∧ fitB l1 = true) := Aside0.mk hfit
 clear hfit hres
 have HRow0 := Aside0.mk hr0
 have HRow1 := Aside0.mk hr1
 clear hr0 hr1
 by_cases h0 : chkP l0 = 0
 ·rw [h0] at hc0'
  go_enter Tryz.func93, Tryz.ntmps93
  by_cases h1 : chkP l1 = 0
  ·have HC1 : Aside (∀ W, Go.RowKit.Below w.heap.size w W → Calls Tryz.prog 34 #[.slice A1 l1.length c1] W fun e w' => e = .returned (.int .i64 0) ∧ Go.RowKit.Below W.heap.size W w') := fun W hB => by
    have := chk_calls A1 c1 l1 W (Kd.C_below HRow1.out hB) hc1 hfi.out.2
    rw [h1] at this
    exact this
   go_wp2_with (go_at_fn 34; first | (with_reducible refine hc0'.mono ?_; rintro e w1 ⟨rfl, hB1⟩) | (with_reducible refine (HC1.out _ hB1).mono ?_; rintro e w2 ⟨rfl, hB2⟩))
   have hl0 := ((chkP_zero l0).1 h0).1
   have hl1 := ((chkP_zero l1).1 h1).1
   have hw12 : Go.RowKit.Below w.heap.size w w2 := hB1.trans (hB2.mono hB1.size)
   have hw3 : Go.RowKit.Below w.heap.size w (w2.alloc (.cells #[.slice A0 l0.length c0, .slice A1 l1.length c1] 29)) := hw12.alloc hw12.size _
   have hcon := concat A0 c0 l0 A1 c1 l1 w2.heap.size (w2.alloc (.cells #[.slice A0 l0.length c0, .slice A1 l1.length c1] 29)) (by simp) (by simp) (by simp) (Kd.C_below HRow0.out hw3) (Kd.C_below HRow1.out hw3) hl0 hl1
   have hw12a : Aside (Go.RowKit.Below w.heap.size w w2) := hw12
   have hw3a : Aside (Go.RowKit.Below w.heap.size w (w2.alloc (.cells #[.slice A0 l0.length c0, .slice A1 l1.length c1] 29))) := hw3
   clear hw12 hw3 hB1 hB2 HC1
   go_wp2_with (go_at_fn 114; with_reducible refine hcon.mono ?_; rintro e w4 ⟨v, rfl, ho, hB⟩)
   have hw4 : Go.RowKit.Below w.heap.size w w4 := hw3a.out.trans (hB.mono (by have := hw12a.out.size; simp; omega))
   have hw4a : Aside (Go.RowKit.Below w.heap.size w w4) := hw4
   have ho4 : Aside (w4.ownsRow w.heap.size 66 4 v (l0 ++ l1).length ((l0 ++ l1).flatMap encB)) := own_lower ho (by have := hw12a.out.size; simp; omega)
   clear ho hB hw4 hcon hw3a hw12a
   go_wp2_with (go_at_fn 115; with_reducible refine (sortC w.heap.size v (l0 ++ l1) (by rw [List.length_append]; omega) w4 ho4.out hw4a.out.size).mono ?_; rintro e w5 ⟨rfl, m, hp, hso, ho5, hB5⟩)
   have hw5a : Aside (Go.RowKit.Below w.heap.size w w5) := hw4a.out.trans hB5
   have ho5a : Aside (w5.ownsRow w.heap.size 66 4 v m.length (m.flatMap encB)) := ho5
   have hpa := Aside0.mk hp
   have hsa := Aside0.mk hso
   have hml : m.length ≤ 1000 := by rw [hp.length_eq, List.length_append]; omega
   clear ho5 hB5 hw4a ho4 hp hso
   go_wp2_with (go_at_fn 118; with_reducible refine (compactC w.heap.size v m hml w5 ho5a.out hw5a.out.size).mono ?_; rintro e w6 ⟨v', rfl, ho6, hB6⟩)
   have hw6a : Aside (Go.RowKit.Below w.heap.size w w6) := hw5a.out.trans hB6
   have hmf : fitB (compactUpTo m.toArray m.toArray.size) = true := by
    refine List.all_eq_true.2 fun x hx => ?_
    have hx2 := hpa.out.mem_iff.1 (mem_compact_iff.1 hx)
    rcases List.mem_append.1 hx2 with h | h
    ·exact List.all_eq_true.1 hfi.out.1 x h
    ·exact List.all_eq_true.1 hfi.out.2 x h
   have hRa := Aside0.mk (R_flat (kd := k66) encB_M encB_len rfl ho6)
   obtain ⟨A6, c6, rfl, hle6, hC6⟩ := Kd.R_reads hRa.out
   have hck := chk_calls A6 c6 _ w6 hC6 hle6 hmf
   have hres2 : (chkP (compactUpTo m.toArray m.toArray.size) = 0 → r1 = compactUpTo m.toArray m.toArray.size ∧ r2 = true) ∧ (¬ chkP (compactUpTo m.toArray m.toArray.size) = 0 → r1 = [] ∧ r2 = false) := by
    have hr := HR.out
    unfold bothP at hr
    have hperm : (sortB (l0 ++ l1)).Perm m := (sortB_perm _).trans hpa.out.symm
    constructor
    ·intro hz
     have he := sorted_only (d := m.toArray) (d' := (sortB (l0 ++ l1)).toArray) hperm.symm hsa.out (sortB_sorted _) hz
     have hb : bothL (l0 ++ l1) = compactUpTo m.toArray m.toArray.size := by unfold bothL; rw [← he]
     rw [hb, if_pos ⟨h0, h1, hz⟩] at hr
     injection hr with a b
     exact ⟨a.symm, b.symm⟩
    ·intro hz
     have hn : ¬ chkP (bothL (l0 ++ l1)) = 0 := fun hz2 => by
      have he := sorted_only (d := (sortB (l0 ++ l1)).toArray) (d' := m.toArray) hperm (sortB_sorted _) hsa.out hz2
      unfold bothL at hz2
      rw [he] at hz2
      exact hz hz2
     rw [if_neg (fun h => hn h.2.2)] at hr
     injection hr with a b
     exact ⟨a.symm, b.symm⟩
   have hrs := Aside0.mk hres2
   clear hres2 ho6 hC6 hmf hB6 ho5a hw5a
   generalize compactUpTo m.toArray m.toArray.size = mm at hrs hRa hck hle6 ⊢
   have hlen6 : Aside0 (mm.length ≤ c6) := Aside0.mk hle6
   by_cases h6 : chkP mm = 0
   ·obtain ⟨rfl, rfl⟩ := hrs.out.1 h6
    rw [h6] at hck
    go_wp2_with (go_at_fn 34; with_reducible refine hck.mono ?_; rintro e w7 ⟨rfl, hB7⟩)
    go_ret2
    exact ⟨_, rfl, Kd.R_below hRa.out hB7, hw6a.out.trans (hB7.mono hw6a.out.size)⟩
   ·obtain ⟨rfl, rfl⟩ := hrs.out.2 h6
    have h6b : (chkP mm != 0) = true := by simpa using h6
    generalize chkP mm = q at hck h6 h6b
    go_wp2_with (go_at_fn 34; with_reducible refine hck.mono ?_; rintro e w7 ⟨rfl, hB7⟩)
    go_ret2
    exact ⟨_, rfl, Kd.R_nil _ _ _ _ _, hw6a.out.trans (hB7.mono hw6a.out.size)⟩
  ·have hn1 : ¬ (chkP l1 = 0) := h1
   have hn1b : (chkP l1 != 0) = true := by simpa using h1
   obtain ⟨rfl, rfl⟩ : r1 = [] ∧ r2 = false := by
    have := HR.out
    unfold bothP at this
    rw [if_neg (fun h => h1 h.2.1)] at this
    injection this with a b
    exact ⟨a.symm, b.symm⟩
   have HC1 : Aside (∀ W, Go.RowKit.Below w.heap.size w W → Calls Tryz.prog 34 #[.slice A1 l1.length c1] W fun e w' => e = .returned (.int .i64 (chkP l1)) ∧ Go.RowKit.Below W.heap.size W w') := fun W hB => chk_calls A1 c1 l1 W (Kd.C_below HRow1.out hB) hc1 hfi.out.2
   generalize chkP l1 = q at HC1 hn1 hn1b
   go_wp2_with (go_at_fn 34; first | (with_reducible refine hc0'.mono ?_; rintro e w1 ⟨rfl, hB1⟩) | (with_reducible refine (HC1.out _ hB1).mono ?_; rintro e w2 ⟨rfl, hB2⟩))
   go_ret2
   exact ⟨_, rfl, Kd.R_nil _ _ _ _ _, hB1.trans (hB2.mono hB1.size)⟩
 ·have hn0 : ¬ (chkP l0 = 0) := h0
  have hn0b : (chkP l0 != 0) = true := by simpa using h0
  obtain ⟨rfl, rfl⟩ : r1 = [] ∧ r2 = false := by
   have := HR.out
   unfold bothP at this
   rw [if_neg (fun h => h0 h.1)] at this
   injection this with a b
   exact ⟨a.symm, b.symm⟩
  generalize chkP l0 = q at hc0' hn0 hn0b
  go_enter Tryz.func93, Tryz.ntmps93
  go_wp2_with (go_at_fn 34; with_reducible refine hc0'.mono ?_; rintro e w1 ⟨rfl, hB1⟩)
  go_ret2
  exact ⟨_, rfl, Kd.R_nil _ _ _ _ _, hB1⟩
end Go.Proofs.YtghommaokdhjmaaGreat.P
