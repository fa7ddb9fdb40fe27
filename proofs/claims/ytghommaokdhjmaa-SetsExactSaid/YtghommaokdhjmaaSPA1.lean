/- A part of the proof: walks of the code and plain laws, printed and by hand; no condition. -/
import Derived.Test.YtghommaokdhjmaaProg
import Derived.Shelf.Small.Strs
import Derived.Below
import Derived.Deep.Draws
import Derived.Deep.AppendLies
import Derived.Maps.AppendAt
import Derived.OwnWalk
import Derived.Laws.BytesArg
import Derived.Laws.MakeOwn
import Derived.Laws.OwnMore
import Derived.Deep.OwnRows
import Derived.Tactics
import Derived.Lib.ConvBytes
import Derived.Laws.Slices
import Derived.WalkKit
import Derived.KernelRfl
import Derived.RowKit3
import Derived.Deep.LoopGhost
import Derived.Deep.QuietTactic
import Derived.BigQuiet
import Derived.WideLaws
import Derived.Deep.DeepCutAuto
import Derived.Deep.CutBlock
import Derived.Deep.RegionHeld3
import Derived.Laws.Rows
import Derived.Lib.AppendStr
import Derived.ArgAppend
import Derived.Laws.IdiomCopy
import Derived.OrdersHeld
import Derived.Laws.BitsLemmas
import Derived.RowKit
import Derived.Laws.Cover1
import Derived.Test.YtghommaokdhjmaaWWords
import Derived.Test.YtghommaokdhjmaaWLast
import Derived.Test.YtghommaokdhjmaaWTab
import Derived.Test.YtghommaokdhjmaaWApart
import Derived.Test.YtghommaokdhjmaaWEqStruct
import Derived.Test.YtghommaokdhjmaaWRepsOne
import Derived.Test.YtghommaokdhjmaaWGuard
import Derived.Sort.Grow
import Derived.Sort.LotA
import Derived.Shelf.SlSortCmp.KitK
import Derived.Shelf.SlSortCmp.InsertionK
import Derived.Sort.WalkB2
import Derived.Sort.WalkB12
import Derived.Lib.SlicesCompact
import Derived.Lib.SliceRun
import Derived.Shelf.RegionOpenPlain
import Derived.Lib.SlKept
import Derived.Shelf.SlSortCmp.QuietGrown
import Derived.Deep.Upon
/- strings.Compare at this translation, by the shelf's contract; the comparing closure of subst.Both: no condition. -/
set_option linter.unusedVariables false
set_option linter.unusedSimpArgs false
namespace Go.Proofs.Ytghommaokdhjmaa.Str
open Go.Shelf Go.RowKit Go.Lib
/-- The shelf's names at this translation. -/
def ren : Ren := ⟨fun x => if x = 106 then 60 else if x = 213 then 90 else if x = 265 then 112 else x, fun x => if x = 3 then 3 else if x = 9 then 9 else x, fun x => x⟩
set_option maxRecDepth 1000000 in
theorem lays : Lays.n106 Try.prog ren := by
  refine ⟨by kernel_rfl, ?_, ?_, ?_, ?_, ?_, ?_, ?_, ?_, ?_, ?_, ?_⟩ <;> first | kernel_rfl | (intro w; kernel_rfl)
/-- How two strings compare. -/
def cmpS (a b : ByteArray) : Int := Lib.compareBytes a.data.toList b.data.toList
theorem compare (a b : ByteArray) (w : World) : Calls Try.prog 60 #[.string a, .string b] w fun e w' => e = .returned (.int .i64 (cmpS a b)) ∧ w' = w :=
  Any.strings_Compare (ρ := ren) lays a b w
theorem compareBytes_swap : ∀ (a b : List UInt8), Lib.compareBytes a b = - Lib.compareBytes b a := by
  intro a
  induction a with
  | nil => intro b; cases b <;> simp [Lib.compareBytes]
  | cons x a ih =>
    intro b
    cases b with
    | nil => simp [Lib.compareBytes]
    | cons y b =>
      simp only [Lib.compareBytes]
      rcases Nat.lt_trichotomy x.toNat y.toNat with h | h | h
      · have h1 : x < y := h
        have h2 : ¬ y < x := by intro h; exact absurd (show y.toNat < x.toNat from h) (by omega)
        simp [h1, h2]
      · have e : x = y := UInt8.toNat_inj.1 h
        subst e
        simp [UInt8.lt_irrefl, ih b]
      · have h1 : y < x := h
        have h2 : ¬ x < y := by intro h; exact absurd (show x.toNat < y.toNat from h) (by omega)
        simp [h1, h2]
end Go.Proofs.Ytghommaokdhjmaa.Str
namespace Go.Proofs.Ytghommaokdhjmaa.P
open Go.RowKit Go.Proofs.YtghommaokdhjmaaW.PrintWords Go.Proofs.YtghommaokdhjmaaW.PrintLast Go.Proofs.YtghommaokdhjmaaW.PrintWords
set_option linter.unusedVariables false
set_option linter.unusedSimpArgs false



def errW : Option Int → Value
 | none => .nilIface
 | some c => .iface 0 (.int .i64 c)
theorem errW_none : errW none = .nilIface := rfl
theorem errW_some (c : Int) : errW (some c) = .iface 0 (.int .i64 c) := rfl

theorem info3 : (Try.prog.info? 3).map (fun i => (i.zero, i.size, i.bytes)) = some (some (.int .i64 0), 1, 8) := by kernel_rfl
theorem info9 : (Try.prog.info? 9).map (fun i => (i.zero, i.size, i.bytes)) = some (some (.string ⟨#[]⟩), 1, 16) := by kernel_rfl
theorem info24 : (Try.prog.info? 24).map (fun i => (i.zero, i.size, i.bytes)) = some (some (.agg #[(.int .i64 0), (.int .i64 0), (.string ⟨#[]⟩)]), 3, 32) := by kernel_rfl
theorem info39 : (Try.prog.info? 39).map (fun i => (i.zero, i.size, i.bytes)) = some (some (.agg #[(.string ⟨#[]⟩), (.int .i64 0), (.int .i64 0), (.string ⟨#[]⟩)]), 4, 48) := by kernel_rfl
theorem info53 : (Try.prog.info? 53).map (fun i => (i.zero, i.size, i.bytes)) = some (some (.agg #[(.string ⟨#[]⟩), (.slice none 0 0)]), 2, 40) := by kernel_rfl
theorem info77 : (Try.prog.info? 77).map (fun i => (i.zero, i.size, i.bytes)) = some (some (.agg #[(.string ⟨#[]⟩), (.int .i64 0), (.int .i64 0), (.string ⟨#[]⟩)]), 4, 48) := by kernel_rfl
-- the values' own types
/-! #### struct type 24 -/
structure S24 where
 f0 : Int
 f1 : Int
 f2 : ByteArray
def z24 : S24 := ⟨(0 : Int), (0 : Int), (⟨#[]⟩ : ByteArray)⟩
def k24 : Kd S24 := Kd.iso (Kd.pair (Kd.int .i64) (Kd.pair (Kd.int .i64) Kd.string)) (fun x : S24 => (x.f0, x.f1, x.f2))
theorem k24_open {w : World} {x : S24} {cs : List Value} (h : k24.K w x cs) : cs = [.int .i64 x.f0, .int .i64 x.f1, .string x.f2] := by
 obtain ⟨_, _, rfl, rfl, ⟨_, _, rfl, rfl, rfl⟩⟩ := h
 exact rfl
theorem k24_openM {w : World} {base : Nat} {ok : Nat → Prop} {x : S24} {cs : List Value} (h : k24.M w base ok x cs) : cs = [.int .i64 x.f0, .int .i64 x.f1, .string x.f2] := by
 obtain ⟨_, _, rfl, rfl, ⟨_, _, rfl, rfl, rfl⟩⟩ := h
 exact rfl
theorem k24_mk (w : World) (x : S24)  : k24.K w x [.int .i64 x.f0, .int .i64 x.f1, .string x.f2] := ⟨[.int .i64 x.f0], [.int .i64 x.f1, .string x.f2], rfl, rfl, ⟨[.int .i64 x.f1], [.string x.f2], rfl, rfl, rfl⟩⟩
theorem k24_mkM (w : World) (base : Nat) (ok : Nat → Prop) (x : S24)  : k24.M w base ok x [.int .i64 x.f0, .int .i64 x.f1, .string x.f2] := ⟨[.int .i64 x.f0], [.int .i64 x.f1, .string x.f2], rfl, rfl, ⟨[.int .i64 x.f1], [.string x.f2], rfl, rfl, rfl⟩⟩
def rd_T24 (xs : List S24) (i : Int) : S24 := xs.getD i.toNat z24
theorem at_T24 {w : World} {A : Option Addr} {n : Nat} {xs : List S24} (h : Kd.C k24 w A n xs) (i : Int) (h0 : 0 ≤ i) (h1 : i < n) : ∃ ad , A = some ad ∧ w.cell? (ad.add (i.toNat * 3)) = some (.int .i64 (rd_T24 xs i).f0) ∧ w.cell? ⟨(ad.add (i.toNat * 3)).block, (ad.add (i.toNat * 3)).off + 1, none⟩ = some (.int .i64 (rd_T24 xs i).f1) ∧ w.cell? ⟨(ad.add (i.toNat * 3)).block, (ad.add (i.toNat * 3)).off + 2, none⟩ = some (.string (rd_T24 xs i).f2) := by
 obtain ⟨ad, c, e, _, hK, hc0⟩ := Kd.C_get h z24 i h0 h1
 have hc : ∀ j u, c[j]? = some u → w.cell? (ad.add (i.toNat * 3 + j)) = some u := hc0
 obtain rfl := k24_open hK
 exact ⟨ad, e, hc 0 _ rfl, by rw [← add_field _ _ 1 (by omega)]; exact hc 1 _ rfl, by rw [← add_field _ _ 2 (by omega)]; exact hc 2 _ rfl⟩

/-! #### struct type 39 -/
structure S39 where
 f0 : ByteArray
 f1 : S24
def z39 : S39 := ⟨(⟨#[]⟩ : ByteArray), z24⟩
def k39 : Kd S39 := Kd.iso (Kd.pair Kd.string k24) (fun x : S39 => (x.f0, x.f1))
theorem k39_open {w : World} {x : S39} {cs : List Value} (h : k39.K w x cs) : cs = [.string x.f0, .int .i64 x.f1.f0, .int .i64 x.f1.f1, .string x.f1.f2] := by
 obtain ⟨_, _, rfl, rfl, s1⟩ := h
 obtain rfl := k24_open s1
 exact rfl
theorem k39_openM {w : World} {base : Nat} {ok : Nat → Prop} {x : S39} {cs : List Value} (h : k39.M w base ok x cs) : cs = [.string x.f0, .int .i64 x.f1.f0, .int .i64 x.f1.f1, .string x.f1.f2] := by
 obtain ⟨_, _, rfl, rfl, s1⟩ := h
 obtain rfl := k24_openM s1
 exact rfl
theorem k39_mk (w : World) (x : S39)  : k39.K w x [.string x.f0, .int .i64 x.f1.f0, .int .i64 x.f1.f1, .string x.f1.f2] := ⟨[.string x.f0], [.int .i64 x.f1.f0, .int .i64 x.f1.f1, .string x.f1.f2], rfl, rfl, (k24_mk w x.f1 )⟩
theorem k39_mkM (w : World) (base : Nat) (ok : Nat → Prop) (x : S39)  : k39.M w base ok x [.string x.f0, .int .i64 x.f1.f0, .int .i64 x.f1.f1, .string x.f1.f2] := ⟨[.string x.f0], [.int .i64 x.f1.f0, .int .i64 x.f1.f1, .string x.f1.f2], rfl, rfl, (k24_mkM w base ok x.f1 )⟩
def rd_T39 (xs : List S39) (i : Int) : S39 := xs.getD i.toNat z39
theorem at_T39 {w : World} {A : Option Addr} {n : Nat} {xs : List S39} (h : Kd.C k39 w A n xs) (i : Int) (h0 : 0 ≤ i) (h1 : i < n) : ∃ ad , A = some ad ∧ w.cell? (ad.add (i.toNat * 4)) = some (.string (rd_T39 xs i).f0) ∧ w.cell? ⟨(ad.add (i.toNat * 4)).block, (ad.add (i.toNat * 4)).off + 1, none⟩ = some (.int .i64 (rd_T39 xs i).f1.f0) ∧ w.cell? ⟨(ad.add (i.toNat * 4)).block, (ad.add (i.toNat * 4)).off + 2, none⟩ = some (.int .i64 (rd_T39 xs i).f1.f1) ∧ w.cell? ⟨(ad.add (i.toNat * 4)).block, (ad.add (i.toNat * 4)).off + 3, none⟩ = some (.string (rd_T39 xs i).f1.f2) := by
 obtain ⟨ad, c, e, _, hK, hc0⟩ := Kd.C_get h z39 i h0 h1
 have hc : ∀ j u, c[j]? = some u → w.cell? (ad.add (i.toNat * 4 + j)) = some u := hc0
 obtain rfl := k39_open hK
 exact ⟨ad, e, hc 0 _ rfl, by rw [← add_field _ _ 1 (by omega)]; exact hc 1 _ rfl, by rw [← add_field _ _ 2 (by omega)]; exact hc 2 _ rfl, by rw [← add_field _ _ 3 (by omega)]; exact hc 3 _ rfl⟩

def rd_L4 (xs : List (List S39)) (i : Int) : (List S39) := xs.getD i.toNat ([] : List S39)
theorem at_L4 {w : World} {A : Option Addr} {n : Nat} {xs : List (List S39)} (h : Kd.C (Kd.slice 39 k39) w A n xs) (i : Int) (h0 : 0 ≤ i) (h1 : i < n) : ∃ ad A0 c0, A = some ad ∧ w.cell? (ad.add i.toNat) = some (.slice A0 (rd_L4 xs i).length c0) ∧ (rd_L4 xs i).length ≤ c0 ∧ k39.C w A0 (rd_L4 xs i).length (rd_L4 xs i) := by
 obtain ⟨ad, c, e, _, hK, hc0⟩ := Kd.C_get h ([] : List S39) i h0 h1
 have hc : ∀ j u, c[j]? = some u → w.cell? (ad.add (i.toNat * 1 + j)) = some u := hc0
 obtain ⟨A0, c0, rfl, l0, g0⟩ := hK
 exact ⟨ad, A0, c0, e, by have hq := hc 0 _ rfl; rwa [Nat.mul_one, Nat.add_zero] at hq, l0, g0⟩

def rd_L5 (xs : List (List S24)) (i : Int) : (List S24) := xs.getD i.toNat ([] : List S24)
theorem at_L5 {w : World} {A : Option Addr} {n : Nat} {xs : List (List S24)} (h : Kd.C (Kd.slice 24 k24) w A n xs) (i : Int) (h0 : 0 ≤ i) (h1 : i < n) : ∃ ad A0 c0, A = some ad ∧ w.cell? (ad.add i.toNat) = some (.slice A0 (rd_L5 xs i).length c0) ∧ (rd_L5 xs i).length ≤ c0 ∧ k24.C w A0 (rd_L5 xs i).length (rd_L5 xs i) := by
 obtain ⟨ad, c, e, _, hK, hc0⟩ := Kd.C_get h ([] : List S24) i h0 h1
 have hc : ∀ j u, c[j]? = some u → w.cell? (ad.add (i.toNat * 1 + j)) = some u := hc0
 obtain ⟨A0, c0, rfl, l0, g0⟩ := hK
 exact ⟨ad, A0, c0, e, by have hq := hc 0 _ rfl; rwa [Nat.mul_one, Nat.add_zero] at hq, l0, g0⟩

/-! #### struct type 53 -/
structure S53 where
 f0 : ByteArray
 f1 : (List S24)
def z53 : S53 := ⟨(⟨#[]⟩ : ByteArray), ([] : List S24)⟩
def k53 : Kd S53 := Kd.iso (Kd.pair Kd.string (Kd.slice 24 k24)) (fun x : S53 => (x.f0, x.f1))
theorem k53_open {w : World} {x : S53} {cs : List Value} (h : k53.K w x cs) : ∃ A1 c1, cs = [.string x.f0, .slice A1 x.f1.length c1] ∧ x.f1.length ≤ c1 ∧ k24.C w A1 x.f1.length x.f1 := by
 obtain ⟨_, _, rfl, rfl, ⟨A1, c1, rfl, l1, g1⟩⟩ := h
 exact ⟨A1, c1, rfl, l1, g1⟩
theorem k53_openM {w : World} {base : Nat} {ok : Nat → Prop} {x : S53} {cs : List Value} (h : k53.M w base ok x cs) : ∃ v1, cs = [.string x.f0, v1] ∧ k24.R 24 w base ok v1 x.f1 := by
 obtain ⟨_, _, rfl, rfl, ⟨v1, rfl, g1⟩⟩ := h
 exact ⟨v1, rfl, g1⟩
theorem k53_mk (w : World) (x : S53) {A1 : Option Addr} {c1 : Nat} (l1 : x.f1.length ≤ c1) (g1 : k24.C w A1 x.f1.length x.f1) : k53.K w x [.string x.f0, .slice A1 x.f1.length c1] := ⟨[.string x.f0], [.slice A1 x.f1.length c1], rfl, rfl, ⟨A1, c1, rfl, l1, g1⟩⟩
theorem k53_mkM (w : World) (base : Nat) (ok : Nat → Prop) (x : S53) {v1 : Value} (g1 : k24.R 24 w base ok v1 x.f1) : k53.M w base ok x [.string x.f0, v1] := ⟨[.string x.f0], [v1], rfl, rfl, ⟨v1, rfl, g1⟩⟩
def rd_T53 (xs : List S53) (i : Int) : S53 := xs.getD i.toNat z53
theorem at_T53 {w : World} {A : Option Addr} {n : Nat} {xs : List S53} (h : Kd.C k53 w A n xs) (i : Int) (h0 : 0 ≤ i) (h1 : i < n) : ∃ ad A1 c1, A = some ad ∧ w.cell? (ad.add (i.toNat * 2)) = some (.string (rd_T53 xs i).f0) ∧ w.cell? ⟨(ad.add (i.toNat * 2)).block, (ad.add (i.toNat * 2)).off + 1, none⟩ = some (.slice A1 (rd_T53 xs i).f1.length c1) ∧ (rd_T53 xs i).f1.length ≤ c1 ∧ k24.C w A1 (rd_T53 xs i).f1.length (rd_T53 xs i).f1 := by
 obtain ⟨ad, c, e, _, hK, hc0⟩ := Kd.C_get h z53 i h0 h1
 have hc : ∀ j u, c[j]? = some u → w.cell? (ad.add (i.toNat * 2 + j)) = some u := hc0
 obtain ⟨A1, c1, rfl, l1, g1⟩ := k53_open hK
 exact ⟨ad, A1, c1, e, hc 0 _ rfl, by rw [← add_field _ _ 1 (by omega)]; exact hc 1 _ rfl, l1, g1⟩

def rd_L7 (xs : List (List S53)) (i : Int) : (List S53) := xs.getD i.toNat ([] : List S53)
theorem at_L7 {w : World} {A : Option Addr} {n : Nat} {xs : List (List S53)} (h : Kd.C (Kd.slice 53 k53) w A n xs) (i : Int) (h0 : 0 ≤ i) (h1 : i < n) : ∃ ad A0 c0, A = some ad ∧ w.cell? (ad.add i.toNat) = some (.slice A0 (rd_L7 xs i).length c0) ∧ (rd_L7 xs i).length ≤ c0 ∧ k53.C w A0 (rd_L7 xs i).length (rd_L7 xs i) := by
 obtain ⟨ad, c, e, _, hK, hc0⟩ := Kd.C_get h ([] : List S53) i h0 h1
 have hc : ∀ j u, c[j]? = some u → w.cell? (ad.add (i.toNat * 1 + j)) = some u := hc0
 obtain ⟨A0, c0, rfl, l0, g0⟩ := hK
 exact ⟨ad, A0, c0, e, by have hq := hc 0 _ rfl; rwa [Nat.mul_one, Nat.add_zero] at hq, l0, g0⟩

/-! #### struct type 77 -/
structure S77 where
 f0 : ByteArray
 f1 : S24
def z77 : S77 := ⟨(⟨#[]⟩ : ByteArray), z24⟩
def k77 : Kd S77 := Kd.iso (Kd.pair Kd.string k24) (fun x : S77 => (x.f0, x.f1))
theorem k77_open {w : World} {x : S77} {cs : List Value} (h : k77.K w x cs) : cs = [.string x.f0, .int .i64 x.f1.f0, .int .i64 x.f1.f1, .string x.f1.f2] := by
 obtain ⟨_, _, rfl, rfl, s1⟩ := h
 obtain rfl := k24_open s1
 exact rfl
theorem k77_openM {w : World} {base : Nat} {ok : Nat → Prop} {x : S77} {cs : List Value} (h : k77.M w base ok x cs) : cs = [.string x.f0, .int .i64 x.f1.f0, .int .i64 x.f1.f1, .string x.f1.f2] := by
 obtain ⟨_, _, rfl, rfl, s1⟩ := h
 obtain rfl := k24_openM s1
 exact rfl
theorem k77_mk (w : World) (x : S77)  : k77.K w x [.string x.f0, .int .i64 x.f1.f0, .int .i64 x.f1.f1, .string x.f1.f2] := ⟨[.string x.f0], [.int .i64 x.f1.f0, .int .i64 x.f1.f1, .string x.f1.f2], rfl, rfl, (k24_mk w x.f1 )⟩
theorem k77_mkM (w : World) (base : Nat) (ok : Nat → Prop) (x : S77)  : k77.M w base ok x [.string x.f0, .int .i64 x.f1.f0, .int .i64 x.f1.f1, .string x.f1.f2] := ⟨[.string x.f0], [.int .i64 x.f1.f0, .int .i64 x.f1.f1, .string x.f1.f2], rfl, rfl, (k24_mkM w base ok x.f1 )⟩
def rd_T77 (xs : List S77) (i : Int) : S77 := xs.getD i.toNat z77
theorem at_T77 {w : World} {A : Option Addr} {n : Nat} {xs : List S77} (h : Kd.C k77 w A n xs) (i : Int) (h0 : 0 ≤ i) (h1 : i < n) : ∃ ad , A = some ad ∧ w.cell? (ad.add (i.toNat * 4)) = some (.string (rd_T77 xs i).f0) ∧ w.cell? ⟨(ad.add (i.toNat * 4)).block, (ad.add (i.toNat * 4)).off + 1, none⟩ = some (.int .i64 (rd_T77 xs i).f1.f0) ∧ w.cell? ⟨(ad.add (i.toNat * 4)).block, (ad.add (i.toNat * 4)).off + 2, none⟩ = some (.int .i64 (rd_T77 xs i).f1.f1) ∧ w.cell? ⟨(ad.add (i.toNat * 4)).block, (ad.add (i.toNat * 4)).off + 3, none⟩ = some (.string (rd_T77 xs i).f1.f2) := by
 obtain ⟨ad, c, e, _, hK, hc0⟩ := Kd.C_get h z77 i h0 h1
 have hc : ∀ j u, c[j]? = some u → w.cell? (ad.add (i.toNat * 4 + j)) = some u := hc0
 obtain rfl := k77_open hK
 exact ⟨ad, e, hc 0 _ rfl, by rw [← add_field _ _ 1 (by omega)]; exact hc 1 _ rfl, by rw [← add_field _ _ 2 (by omega)]; exact hc 2 _ rfl, by rw [← add_field _ _ 3 (by omega)]; exact hc 3 _ rfl⟩

def rd_L9 (xs : List (List S77)) (i : Int) : (List S77) := xs.getD i.toNat ([] : List S77)
theorem at_L9 {w : World} {A : Option Addr} {n : Nat} {xs : List (List S77)} (h : Kd.C (Kd.slice 77 k77) w A n xs) (i : Int) (h0 : 0 ≤ i) (h1 : i < n) : ∃ ad A0 c0, A = some ad ∧ w.cell? (ad.add i.toNat) = some (.slice A0 (rd_L9 xs i).length c0) ∧ (rd_L9 xs i).length ≤ c0 ∧ k77.C w A0 (rd_L9 xs i).length (rd_L9 xs i) := by
 obtain ⟨ad, c, e, _, hK, hc0⟩ := Kd.C_get h ([] : List S77) i h0 h1
 have hc : ∀ j u, c[j]? = some u → w.cell? (ad.add (i.toNat * 1 + j)) = some u := hc0
 obtain ⟨A0, c0, rfl, l0, g0⟩ := hK
 exact ⟨ad, A0, c0, e, by have hq := hc 0 _ rfl; rwa [Nat.mul_one, Nat.add_zero] at hq, l0, g0⟩

/-! #### struct type 69 -/
structure S69 where
 f0 : ByteArray
 f1 : (List S77)
def z69 : S69 := ⟨(⟨#[]⟩ : ByteArray), ([] : List S77)⟩
def k69 : Kd S69 := Kd.iso (Kd.pair Kd.string (Kd.slice 77 k77)) (fun x : S69 => (x.f0, x.f1))
theorem k69_open {w : World} {x : S69} {cs : List Value} (h : k69.K w x cs) : ∃ A1 c1, cs = [.string x.f0, .slice A1 x.f1.length c1] ∧ x.f1.length ≤ c1 ∧ k77.C w A1 x.f1.length x.f1 := by
 obtain ⟨_, _, rfl, rfl, ⟨A1, c1, rfl, l1, g1⟩⟩ := h
 exact ⟨A1, c1, rfl, l1, g1⟩
theorem k69_openM {w : World} {base : Nat} {ok : Nat → Prop} {x : S69} {cs : List Value} (h : k69.M w base ok x cs) : ∃ v1, cs = [.string x.f0, v1] ∧ k77.R 77 w base ok v1 x.f1 := by
 obtain ⟨_, _, rfl, rfl, ⟨v1, rfl, g1⟩⟩ := h
 exact ⟨v1, rfl, g1⟩
theorem k69_mk (w : World) (x : S69) {A1 : Option Addr} {c1 : Nat} (l1 : x.f1.length ≤ c1) (g1 : k77.C w A1 x.f1.length x.f1) : k69.K w x [.string x.f0, .slice A1 x.f1.length c1] := ⟨[.string x.f0], [.slice A1 x.f1.length c1], rfl, rfl, ⟨A1, c1, rfl, l1, g1⟩⟩
theorem k69_mkM (w : World) (base : Nat) (ok : Nat → Prop) (x : S69) {v1 : Value} (g1 : k77.R 77 w base ok v1 x.f1) : k69.M w base ok x [.string x.f0, v1] := ⟨[.string x.f0], [v1], rfl, rfl, ⟨v1, rfl, g1⟩⟩
def rd_T69 (xs : List S69) (i : Int) : S69 := xs.getD i.toNat z69
theorem at_T69 {w : World} {A : Option Addr} {n : Nat} {xs : List S69} (h : Kd.C k69 w A n xs) (i : Int) (h0 : 0 ≤ i) (h1 : i < n) : ∃ ad A1 c1, A = some ad ∧ w.cell? (ad.add (i.toNat * 2)) = some (.string (rd_T69 xs i).f0) ∧ w.cell? ⟨(ad.add (i.toNat * 2)).block, (ad.add (i.toNat * 2)).off + 1, none⟩ = some (.slice A1 (rd_T69 xs i).f1.length c1) ∧ (rd_T69 xs i).f1.length ≤ c1 ∧ k77.C w A1 (rd_T69 xs i).f1.length (rd_T69 xs i).f1 := by
 obtain ⟨ad, c, e, _, hK, hc0⟩ := Kd.C_get h z69 i h0 h1
 have hc : ∀ j u, c[j]? = some u → w.cell? (ad.add (i.toNat * 2 + j)) = some u := hc0
 obtain ⟨A1, c1, rfl, l1, g1⟩ := k69_open hK
 exact ⟨ad, A1, c1, e, hc 0 _ rfl, by rw [← add_field _ _ 1 (by omega)]; exact hc 1 _ rfl, l1, g1⟩

end Go.Proofs.Ytghommaokdhjmaa.P
namespace Go.Proofs.Ytghommaokdhjmaa.Gate
open Go.Proofs.Ytghommaokdhjmaa.P Go.RowKit Go.Proofs.YtghommaokdhjmaaW.PrintWords
section
variable {P : Program} {ops : Array Oper} {rest : List Oper} {o : Oper} {a : Act} {Q : Exit → Act → World → Prop} {W : World}
/-- Looks whether an operation calls a function, ahead of a dear step. -/
theorem gate_callee {f : FuncId} {xs : Array Operand} {ts : Array TypeId} (_h : o.op = .call { callee := .value (.func f), args := xs, argTypes := ts }) (k : wpList P ops Q (o :: rest) a W) : wpList P ops Q (o :: rest) a W := k
/-- Looks whether an operation is a builtin over these places. -/
theorem gate_builtin {b : Builtin} {xs : Array Operand} {ts : Array TypeId} (_h : o.op = .call { callee := .builtin b, args := xs, argTypes := ts }) (k : wpList P ops Q (o :: rest) a W) : wpList P ops Q (o :: rest) a W := k
end
theorem bk {w W : World} {g : Nat} {o : Obj} (h : w.heap[g]? = some o) (k : w.heap[g]? = some o → W.heap[g]? = some o := by intro h_; (with_reducible repeat (first | refine blk_drewN ?_ _ | refine blk_drew ?_ | refine blk_alloc ?_ _)); exact h_) : W.heap[g]? = some o := k h
theorem bB0 {w W : World} (h : Below w.heap.size w W := by repeat (first | (with_reducible first | exact HB.out | apply below_alloc | apply pw_below_drewN | apply below_drew1) | exact HB.out)) : Below w.heap.size w W := h
theorem bB1 {w W : World} {b0 : Nat} (g0 : w.heap.size ≤ b0) (h : w.heap.size ≤ b0 → Below w.heap.size w W := by intro g0_; repeat (first | (with_reducible first | exact HB.out | apply below_alloc | apply pw_below_drewN | apply below_drew1 | refine below_set ?_ g0_) | exact HB.out)) : Below w.heap.size w W := h g0
theorem bB2 {w W : World} {b0 b1 : Nat} (g0 : w.heap.size ≤ b0) (g1 : w.heap.size ≤ b1) (h : w.heap.size ≤ b0 → w.heap.size ≤ b1 → Below w.heap.size w W := by intro g0_ g1_; repeat (first | (with_reducible first | exact HB.out | apply below_alloc | apply pw_below_drewN | apply below_drew1 | refine below_set ?_ g0_ | refine below_set ?_ g1_) | exact HB.out)) : Below w.heap.size w W := h g0 g1
theorem bB3 {w W : World} {b0 b1 b2 : Nat} (g0 : w.heap.size ≤ b0) (g1 : w.heap.size ≤ b1) (g2 : w.heap.size ≤ b2) (h : w.heap.size ≤ b0 → w.heap.size ≤ b1 → w.heap.size ≤ b2 → Below w.heap.size w W := by intro g0_ g1_ g2_; repeat (first | (with_reducible first | exact HB.out | apply below_alloc | apply pw_below_drewN | apply below_drew1 | refine below_set ?_ g0_ | refine below_set ?_ g1_ | refine below_set ?_ g2_) | exact HB.out)) : Below w.heap.size w W := h g0 g1 g2
theorem bB4 {w W : World} {b0 b1 b2 b3 : Nat} (g0 : w.heap.size ≤ b0) (g1 : w.heap.size ≤ b1) (g2 : w.heap.size ≤ b2) (g3 : w.heap.size ≤ b3) (h : w.heap.size ≤ b0 → w.heap.size ≤ b1 → w.heap.size ≤ b2 → w.heap.size ≤ b3 → Below w.heap.size w W := by intro g0_ g1_ g2_ g3_; repeat (first | (with_reducible first | exact HB.out | apply below_alloc | apply pw_below_drewN | apply below_drew1 | refine below_set ?_ g0_ | refine below_set ?_ g1_ | refine below_set ?_ g2_ | refine below_set ?_ g3_) | exact HB.out)) : Below w.heap.size w W := h g0 g1 g2 g3
theorem bB5 {w W : World} {b0 b1 b2 b3 b4 : Nat} (g0 : w.heap.size ≤ b0) (g1 : w.heap.size ≤ b1) (g2 : w.heap.size ≤ b2) (g3 : w.heap.size ≤ b3) (g4 : w.heap.size ≤ b4) (h : w.heap.size ≤ b0 → w.heap.size ≤ b1 → w.heap.size ≤ b2 → w.heap.size ≤ b3 → w.heap.size ≤ b4 → Below w.heap.size w W := by intro g0_ g1_ g2_ g3_ g4_; repeat (first | (with_reducible first | exact HB.out | apply below_alloc | apply pw_below_drewN | apply below_drew1 | refine below_set ?_ g0_ | refine below_set ?_ g1_ | refine below_set ?_ g2_ | refine below_set ?_ g3_ | refine below_set ?_ g4_) | exact HB.out)) : Below w.heap.size w W := h g0 g1 g2 g3 g4
theorem bB6 {w W : World} {b0 b1 b2 b3 b4 b5 : Nat} (g0 : w.heap.size ≤ b0) (g1 : w.heap.size ≤ b1) (g2 : w.heap.size ≤ b2) (g3 : w.heap.size ≤ b3) (g4 : w.heap.size ≤ b4) (g5 : w.heap.size ≤ b5) (h : w.heap.size ≤ b0 → w.heap.size ≤ b1 → w.heap.size ≤ b2 → w.heap.size ≤ b3 → w.heap.size ≤ b4 → w.heap.size ≤ b5 → Below w.heap.size w W := by intro g0_ g1_ g2_ g3_ g4_ g5_; repeat (first | (with_reducible first | exact HB.out | apply below_alloc | apply pw_below_drewN | apply below_drew1 | refine below_set ?_ g0_ | refine below_set ?_ g1_ | refine below_set ?_ g2_ | refine below_set ?_ g3_ | refine below_set ?_ g4_ | refine below_set ?_ g5_) | exact HB.out)) : Below w.heap.size w W := h g0 g1 g2 g3 g4 g5
theorem bB7 {w W : World} {b0 b1 b2 b3 b4 b5 b6 : Nat} (g0 : w.heap.size ≤ b0) (g1 : w.heap.size ≤ b1) (g2 : w.heap.size ≤ b2) (g3 : w.heap.size ≤ b3) (g4 : w.heap.size ≤ b4) (g5 : w.heap.size ≤ b5) (g6 : w.heap.size ≤ b6) (h : w.heap.size ≤ b0 → w.heap.size ≤ b1 → w.heap.size ≤ b2 → w.heap.size ≤ b3 → w.heap.size ≤ b4 → w.heap.size ≤ b5 → w.heap.size ≤ b6 → Below w.heap.size w W := by intro g0_ g1_ g2_ g3_ g4_ g5_ g6_; repeat (first | (with_reducible first | exact HB.out | apply below_alloc | apply pw_below_drewN | apply below_drew1 | refine below_set ?_ g0_ | refine below_set ?_ g1_ | refine below_set ?_ g2_ | refine below_set ?_ g3_ | refine below_set ?_ g4_ | refine below_set ?_ g5_ | refine below_set ?_ g6_) | exact HB.out)) : Below w.heap.size w W := h g0 g1 g2 g3 g4 g5 g6
theorem bB8 {w W : World} {b0 b1 b2 b3 b4 b5 b6 b7 : Nat} (g0 : w.heap.size ≤ b0) (g1 : w.heap.size ≤ b1) (g2 : w.heap.size ≤ b2) (g3 : w.heap.size ≤ b3) (g4 : w.heap.size ≤ b4) (g5 : w.heap.size ≤ b5) (g6 : w.heap.size ≤ b6) (g7 : w.heap.size ≤ b7) (h : w.heap.size ≤ b0 → w.heap.size ≤ b1 → w.heap.size ≤ b2 → w.heap.size ≤ b3 → w.heap.size ≤ b4 → w.heap.size ≤ b5 → w.heap.size ≤ b6 → w.heap.size ≤ b7 → Below w.heap.size w W := by intro g0_ g1_ g2_ g3_ g4_ g5_ g6_ g7_; repeat (first | (with_reducible first | exact HB.out | apply below_alloc | apply pw_below_drewN | apply below_drew1 | refine below_set ?_ g0_ | refine below_set ?_ g1_ | refine below_set ?_ g2_ | refine below_set ?_ g3_ | refine below_set ?_ g4_ | refine below_set ?_ g5_ | refine below_set ?_ g6_ | refine below_set ?_ g7_) | exact HB.out)) : Below w.heap.size w W := h g0 g1 g2 g3 g4 g5 g6 g7
theorem bB9 {w W : World} {b0 b1 b2 b3 b4 b5 b6 b7 b8 : Nat} (g0 : w.heap.size ≤ b0) (g1 : w.heap.size ≤ b1) (g2 : w.heap.size ≤ b2) (g3 : w.heap.size ≤ b3) (g4 : w.heap.size ≤ b4) (g5 : w.heap.size ≤ b5) (g6 : w.heap.size ≤ b6) (g7 : w.heap.size ≤ b7) (g8 : w.heap.size ≤ b8) (h : w.heap.size ≤ b0 → w.heap.size ≤ b1 → w.heap.size ≤ b2 → w.heap.size ≤ b3 → w.heap.size ≤ b4 → w.heap.size ≤ b5 → w.heap.size ≤ b6 → w.heap.size ≤ b7 → w.heap.size ≤ b8 → Below w.heap.size w W := by intro g0_ g1_ g2_ g3_ g4_ g5_ g6_ g7_ g8_; repeat (first | (with_reducible first | exact HB.out | apply below_alloc | apply pw_below_drewN | apply below_drew1 | refine below_set ?_ g0_ | refine below_set ?_ g1_ | refine below_set ?_ g2_ | refine below_set ?_ g3_ | refine below_set ?_ g4_ | refine below_set ?_ g5_ | refine below_set ?_ g6_ | refine below_set ?_ g7_ | refine below_set ?_ g8_) | exact HB.out)) : Below w.heap.size w W := h g0 g1 g2 g3 g4 g5 g6 g7 g8
theorem bB10 {w W : World} {b0 b1 b2 b3 b4 b5 b6 b7 b8 b9 : Nat} (g0 : w.heap.size ≤ b0) (g1 : w.heap.size ≤ b1) (g2 : w.heap.size ≤ b2) (g3 : w.heap.size ≤ b3) (g4 : w.heap.size ≤ b4) (g5 : w.heap.size ≤ b5) (g6 : w.heap.size ≤ b6) (g7 : w.heap.size ≤ b7) (g8 : w.heap.size ≤ b8) (g9 : w.heap.size ≤ b9) (h : w.heap.size ≤ b0 → w.heap.size ≤ b1 → w.heap.size ≤ b2 → w.heap.size ≤ b3 → w.heap.size ≤ b4 → w.heap.size ≤ b5 → w.heap.size ≤ b6 → w.heap.size ≤ b7 → w.heap.size ≤ b8 → w.heap.size ≤ b9 → Below w.heap.size w W := by intro g0_ g1_ g2_ g3_ g4_ g5_ g6_ g7_ g8_ g9_; repeat (first | (with_reducible first | exact HB.out | apply below_alloc | apply pw_below_drewN | apply below_drew1 | refine below_set ?_ g0_ | refine below_set ?_ g1_ | refine below_set ?_ g2_ | refine below_set ?_ g3_ | refine below_set ?_ g4_ | refine below_set ?_ g5_ | refine below_set ?_ g6_ | refine below_set ?_ g7_ | refine below_set ?_ g8_ | refine below_set ?_ g9_) | exact HB.out)) : Below w.heap.size w W := h g0 g1 g2 g3 g4 g5 g6 g7 g8 g9
theorem bB11 {w W : World} {b0 b1 b2 b3 b4 b5 b6 b7 b8 b9 b10 : Nat} (g0 : w.heap.size ≤ b0) (g1 : w.heap.size ≤ b1) (g2 : w.heap.size ≤ b2) (g3 : w.heap.size ≤ b3) (g4 : w.heap.size ≤ b4) (g5 : w.heap.size ≤ b5) (g6 : w.heap.size ≤ b6) (g7 : w.heap.size ≤ b7) (g8 : w.heap.size ≤ b8) (g9 : w.heap.size ≤ b9) (g10 : w.heap.size ≤ b10) (h : w.heap.size ≤ b0 → w.heap.size ≤ b1 → w.heap.size ≤ b2 → w.heap.size ≤ b3 → w.heap.size ≤ b4 → w.heap.size ≤ b5 → w.heap.size ≤ b6 → w.heap.size ≤ b7 → w.heap.size ≤ b8 → w.heap.size ≤ b9 → w.heap.size ≤ b10 → Below w.heap.size w W := by intro g0_ g1_ g2_ g3_ g4_ g5_ g6_ g7_ g8_ g9_ g10_; repeat (first | (with_reducible first | exact HB.out | apply below_alloc | apply pw_below_drewN | apply below_drew1 | refine below_set ?_ g0_ | refine below_set ?_ g1_ | refine below_set ?_ g2_ | refine below_set ?_ g3_ | refine below_set ?_ g4_ | refine below_set ?_ g5_ | refine below_set ?_ g6_ | refine below_set ?_ g7_ | refine below_set ?_ g8_ | refine below_set ?_ g9_ | refine below_set ?_ g10_) | exact HB.out)) : Below w.heap.size w W := h g0 g1 g2 g3 g4 g5 g6 g7 g8 g9 g10
theorem bB12 {w W : World} {b0 b1 b2 b3 b4 b5 b6 b7 b8 b9 b10 b11 : Nat} (g0 : w.heap.size ≤ b0) (g1 : w.heap.size ≤ b1) (g2 : w.heap.size ≤ b2) (g3 : w.heap.size ≤ b3) (g4 : w.heap.size ≤ b4) (g5 : w.heap.size ≤ b5) (g6 : w.heap.size ≤ b6) (g7 : w.heap.size ≤ b7) (g8 : w.heap.size ≤ b8) (g9 : w.heap.size ≤ b9) (g10 : w.heap.size ≤ b10) (g11 : w.heap.size ≤ b11) (h : w.heap.size ≤ b0 → w.heap.size ≤ b1 → w.heap.size ≤ b2 → w.heap.size ≤ b3 → w.heap.size ≤ b4 → w.heap.size ≤ b5 → w.heap.size ≤ b6 → w.heap.size ≤ b7 → w.heap.size ≤ b8 → w.heap.size ≤ b9 → w.heap.size ≤ b10 → w.heap.size ≤ b11 → Below w.heap.size w W := by intro g0_ g1_ g2_ g3_ g4_ g5_ g6_ g7_ g8_ g9_ g10_ g11_; repeat (first | (with_reducible first | exact HB.out | apply below_alloc | apply pw_below_drewN | apply below_drew1 | refine below_set ?_ g0_ | refine below_set ?_ g1_ | refine below_set ?_ g2_ | refine below_set ?_ g3_ | refine below_set ?_ g4_ | refine below_set ?_ g5_ | refine below_set ?_ g6_ | refine below_set ?_ g7_ | refine below_set ?_ g8_ | refine below_set ?_ g9_ | refine below_set ?_ g10_ | refine below_set ?_ g11_) | exact HB.out)) : Below w.heap.size w W := h g0 g1 g2 g3 g4 g5 g6 g7 g8 g9 g10 g11
section
variable {α : Type} {d : Kd α} {w W : World} {A : Option Addr} {n e base : Nat} {ok : Nat → Prop} {v : Value} {xs : List α}
theorem sC (x : Kd.C d w A n xs) (k : Kd.C d w A n xs → Kd.C d W A n xs := by intro x_; repeat (first | exact x_ | (with_reducible refine Kd.C_alloc ?_ _) | (with_reducible refine Kd.C_drewN ?_ _) | (with_reducible refine Kd.C_drew ?_))) : Kd.C d W A n xs := k x
theorem sR (x : Kd.R d e w base ok v xs) (k : Kd.R d e w base ok v xs → Kd.R d e W base ok v xs := by intro x_; (with_reducible repeat (first | apply Kd.R_alloc | apply Kd.R_drewN | apply Kd.R_drew)); exact x_) : Kd.R d e W base ok v xs := k x
end
section
variable {P : Program} {md : Region.Mode} {ops : Array Oper} {Q : Exit → Act → World → Prop} {S : World → Prop} {ds : List Nat}
open Go.Proofs.YtghommaokdhjmaaW.PrintLast
theorem pQ {i : Nat} {N : Option Tmp} {oi : Oper} {v : Value} {fuel : Nat} {l : Array Bool} {a : Act} {w : World} (l' : Array Bool) {a' : Act} (h : wpAnyLast P md ops Q S ds fuel l' a' w) (hi : ops[i]? = some oi := by rfl) (hN : oi.dst = N := by rfl) (hc : anyB md ops l l' i = true := by exact any_of HT_.out (by kernel_rfl))
    (hQ : ∀ c a w, Q (.panic c) (a.put oi.dst v) w → Q (.panic c) a w := by exact fun _ _ _ h => h) (hy : Yields P ops oi v a := by exact Or.inl ⟨by rfl, by intro w'; go_simp; with_reducible rfl⟩) (ha : a.put N v = a' := by simp only [Act.put, List.setIfInBounds_toArray, List.set_cons_zero, List.set_cons_succ, i64_w, i32_w]; rfl) : wpAnyLast P md ops Q S ds (fuel + 1) l a w := pure_ l' hi hN hc hQ hy ha h
theorem tQ1 {i : Nat} {N : Option Tmp} {oi : Oper} {v : Value} {fuel : Nat} {l : Array Bool} {a : Act} {w : World} (l' : Array Bool) (hS : S w) {a' : Act} (h : wpAnyLast P md ops Q S ds fuel l' a' w) (hi : ops[i]? = some oi := by rfl) (hN : oi.dst = N := by rfl) (hc : takeB md ops ds l l' i = true := by exact take_ofW HT_.out HW_.out (by kernel_rfl)) (hQ : ∀ c a w, Q (.panic c) (a.put oi.dst v) w → Q (.panic c) a w := by exact fun _ _ _ h => h) (hy : YieldsIf P ops S oi v a := by exact Or.inl ⟨by rfl, by intro w' s0; go_simp; with_reducible rfl⟩) (ha : a.put N v = a' := by simp only [Act.put, List.setIfInBounds_toArray, List.set_cons_zero, List.set_cons_succ, i64_w, i32_w]; rfl) : wpAnyLast P md ops Q S ds (fuel + 1) l a w := take_ l' hi hN hc hQ hy hS ha h
theorem tQ2 {i : Nat} {N : Option Tmp} {oi : Oper} {v : Value} {fuel : Nat} {l : Array Bool} {a : Act} {w : World} (l' : Array Bool) (hS : S w) {a' : Act} (h : wpAnyLast P md ops Q S ds fuel l' a' w) (hi : ops[i]? = some oi := by rfl) (hN : oi.dst = N := by rfl) (hc : takeB md ops ds l l' i = true := by exact take_ofW HT_.out HW_.out (by kernel_rfl)) (hQ : ∀ c a w, Q (.panic c) (a.put oi.dst v) w → Q (.panic c) a w := by exact fun _ _ _ h => h) (hy : YieldsIf P ops S oi v a := by exact Or.inl ⟨by rfl, by rintro w' ⟨s0, s1⟩; go_simp; with_reducible rfl⟩) (ha : a.put N v = a' := by simp only [Act.put, List.setIfInBounds_toArray, List.set_cons_zero, List.set_cons_succ, i64_w, i32_w]; rfl) : wpAnyLast P md ops Q S ds (fuel + 1) l a w := take_ l' hi hN hc hQ hy hS ha h
theorem tQ3 {i : Nat} {N : Option Tmp} {oi : Oper} {v : Value} {fuel : Nat} {l : Array Bool} {a : Act} {w : World} (l' : Array Bool) (hS : S w) {a' : Act} (h : wpAnyLast P md ops Q S ds fuel l' a' w) (hi : ops[i]? = some oi := by rfl) (hN : oi.dst = N := by rfl) (hc : takeB md ops ds l l' i = true := by exact take_ofW HT_.out HW_.out (by kernel_rfl)) (hQ : ∀ c a w, Q (.panic c) (a.put oi.dst v) w → Q (.panic c) a w := by exact fun _ _ _ h => h) (hy : YieldsIf P ops S oi v a := by exact Or.inl ⟨by rfl, by rintro w' ⟨s0, s1, s2⟩; go_simp; with_reducible rfl⟩) (ha : a.put N v = a' := by simp only [Act.put, List.setIfInBounds_toArray, List.set_cons_zero, List.set_cons_succ, i64_w, i32_w]; rfl) : wpAnyLast P md ops Q S ds (fuel + 1) l a w := take_ l' hi hN hc hQ hy hS ha h
theorem tQ4 {i : Nat} {N : Option Tmp} {oi : Oper} {v : Value} {fuel : Nat} {l : Array Bool} {a : Act} {w : World} (l' : Array Bool) (hS : S w) {a' : Act} (h : wpAnyLast P md ops Q S ds fuel l' a' w) (hi : ops[i]? = some oi := by rfl) (hN : oi.dst = N := by rfl) (hc : takeB md ops ds l l' i = true := by exact take_ofW HT_.out HW_.out (by kernel_rfl)) (hQ : ∀ c a w, Q (.panic c) (a.put oi.dst v) w → Q (.panic c) a w := by exact fun _ _ _ h => h) (hy : YieldsIf P ops S oi v a := by exact Or.inl ⟨by rfl, by rintro w' ⟨s0, s1, s2, s3⟩; go_simp; with_reducible rfl⟩) (ha : a.put N v = a' := by simp only [Act.put, List.setIfInBounds_toArray, List.set_cons_zero, List.set_cons_succ, i64_w, i32_w]; rfl) : wpAnyLast P md ops Q S ds (fuel + 1) l a w := take_ l' hi hN hc hQ hy hS ha h
theorem tQ5 {i : Nat} {N : Option Tmp} {oi : Oper} {v : Value} {fuel : Nat} {l : Array Bool} {a : Act} {w : World} (l' : Array Bool) (hS : S w) {a' : Act} (h : wpAnyLast P md ops Q S ds fuel l' a' w) (hi : ops[i]? = some oi := by rfl) (hN : oi.dst = N := by rfl) (hc : takeB md ops ds l l' i = true := by exact take_ofW HT_.out HW_.out (by kernel_rfl)) (hQ : ∀ c a w, Q (.panic c) (a.put oi.dst v) w → Q (.panic c) a w := by exact fun _ _ _ h => h) (hy : YieldsIf P ops S oi v a := by exact Or.inl ⟨by rfl, by rintro w' ⟨s0, s1, s2, s3, s4⟩; go_simp; with_reducible rfl⟩) (ha : a.put N v = a' := by simp only [Act.put, List.setIfInBounds_toArray, List.set_cons_zero, List.set_cons_succ, i64_w, i32_w]; rfl) : wpAnyLast P md ops Q S ds (fuel + 1) l a w := take_ l' hi hN hc hQ hy hS ha h
theorem tQ6 {i : Nat} {N : Option Tmp} {oi : Oper} {v : Value} {fuel : Nat} {l : Array Bool} {a : Act} {w : World} (l' : Array Bool) (hS : S w) {a' : Act} (h : wpAnyLast P md ops Q S ds fuel l' a' w) (hi : ops[i]? = some oi := by rfl) (hN : oi.dst = N := by rfl) (hc : takeB md ops ds l l' i = true := by exact take_ofW HT_.out HW_.out (by kernel_rfl)) (hQ : ∀ c a w, Q (.panic c) (a.put oi.dst v) w → Q (.panic c) a w := by exact fun _ _ _ h => h) (hy : YieldsIf P ops S oi v a := by exact Or.inl ⟨by rfl, by rintro w' ⟨s0, s1, s2, s3, s4, s5⟩; go_simp; with_reducible rfl⟩) (ha : a.put N v = a' := by simp only [Act.put, List.setIfInBounds_toArray, List.set_cons_zero, List.set_cons_succ, i64_w, i32_w]; rfl) : wpAnyLast P md ops Q S ds (fuel + 1) l a w := take_ l' hi hN hc hQ hy hS ha h
theorem tQ7 {i : Nat} {N : Option Tmp} {oi : Oper} {v : Value} {fuel : Nat} {l : Array Bool} {a : Act} {w : World} (l' : Array Bool) (hS : S w) {a' : Act} (h : wpAnyLast P md ops Q S ds fuel l' a' w) (hi : ops[i]? = some oi := by rfl) (hN : oi.dst = N := by rfl) (hc : takeB md ops ds l l' i = true := by exact take_ofW HT_.out HW_.out (by kernel_rfl)) (hQ : ∀ c a w, Q (.panic c) (a.put oi.dst v) w → Q (.panic c) a w := by exact fun _ _ _ h => h) (hy : YieldsIf P ops S oi v a := by exact Or.inl ⟨by rfl, by rintro w' ⟨s0, s1, s2, s3, s4, s5, s6⟩; go_simp; with_reducible rfl⟩) (ha : a.put N v = a' := by simp only [Act.put, List.setIfInBounds_toArray, List.set_cons_zero, List.set_cons_succ, i64_w, i32_w]; rfl) : wpAnyLast P md ops Q S ds (fuel + 1) l a w := take_ l' hi hN hc hQ hy hS ha h
theorem tQ8 {i : Nat} {N : Option Tmp} {oi : Oper} {v : Value} {fuel : Nat} {l : Array Bool} {a : Act} {w : World} (l' : Array Bool) (hS : S w) {a' : Act} (h : wpAnyLast P md ops Q S ds fuel l' a' w) (hi : ops[i]? = some oi := by rfl) (hN : oi.dst = N := by rfl) (hc : takeB md ops ds l l' i = true := by exact take_ofW HT_.out HW_.out (by kernel_rfl)) (hQ : ∀ c a w, Q (.panic c) (a.put oi.dst v) w → Q (.panic c) a w := by exact fun _ _ _ h => h) (hy : YieldsIf P ops S oi v a := by exact Or.inl ⟨by rfl, by rintro w' ⟨s0, s1, s2, s3, s4, s5, s6, s7⟩; go_simp; with_reducible rfl⟩) (ha : a.put N v = a' := by simp only [Act.put, List.setIfInBounds_toArray, List.set_cons_zero, List.set_cons_succ, i64_w, i32_w]; rfl) : wpAnyLast P md ops Q S ds (fuel + 1) l a w := take_ l' hi hN hc hQ hy hS ha h
theorem tQ9 {i : Nat} {N : Option Tmp} {oi : Oper} {v : Value} {fuel : Nat} {l : Array Bool} {a : Act} {w : World} (l' : Array Bool) (hS : S w) {a' : Act} (h : wpAnyLast P md ops Q S ds fuel l' a' w) (hi : ops[i]? = some oi := by rfl) (hN : oi.dst = N := by rfl) (hc : takeB md ops ds l l' i = true := by exact take_ofW HT_.out HW_.out (by kernel_rfl)) (hQ : ∀ c a w, Q (.panic c) (a.put oi.dst v) w → Q (.panic c) a w := by exact fun _ _ _ h => h) (hy : YieldsIf P ops S oi v a := by exact Or.inl ⟨by rfl, by rintro w' ⟨s0, s1, s2, s3, s4, s5, s6, s7, s8⟩; go_simp; with_reducible rfl⟩) (ha : a.put N v = a' := by simp only [Act.put, List.setIfInBounds_toArray, List.set_cons_zero, List.set_cons_succ, i64_w, i32_w]; rfl) : wpAnyLast P md ops Q S ds (fuel + 1) l a w := take_ l' hi hN hc hQ hy hS ha h
theorem tQ10 {i : Nat} {N : Option Tmp} {oi : Oper} {v : Value} {fuel : Nat} {l : Array Bool} {a : Act} {w : World} (l' : Array Bool) (hS : S w) {a' : Act} (h : wpAnyLast P md ops Q S ds fuel l' a' w) (hi : ops[i]? = some oi := by rfl) (hN : oi.dst = N := by rfl) (hc : takeB md ops ds l l' i = true := by exact take_ofW HT_.out HW_.out (by kernel_rfl)) (hQ : ∀ c a w, Q (.panic c) (a.put oi.dst v) w → Q (.panic c) a w := by exact fun _ _ _ h => h) (hy : YieldsIf P ops S oi v a := by exact Or.inl ⟨by rfl, by rintro w' ⟨s0, s1, s2, s3, s4, s5, s6, s7, s8, s9⟩; go_simp; with_reducible rfl⟩) (ha : a.put N v = a' := by simp only [Act.put, List.setIfInBounds_toArray, List.set_cons_zero, List.set_cons_succ, i64_w, i32_w]; rfl) : wpAnyLast P md ops Q S ds (fuel + 1) l a w := take_ l' hi hN hc hQ hy hS ha h
theorem tQ11 {i : Nat} {N : Option Tmp} {oi : Oper} {v : Value} {fuel : Nat} {l : Array Bool} {a : Act} {w : World} (l' : Array Bool) (hS : S w) {a' : Act} (h : wpAnyLast P md ops Q S ds fuel l' a' w) (hi : ops[i]? = some oi := by rfl) (hN : oi.dst = N := by rfl) (hc : takeB md ops ds l l' i = true := by exact take_ofW HT_.out HW_.out (by kernel_rfl)) (hQ : ∀ c a w, Q (.panic c) (a.put oi.dst v) w → Q (.panic c) a w := by exact fun _ _ _ h => h) (hy : YieldsIf P ops S oi v a := by exact Or.inl ⟨by rfl, by rintro w' ⟨s0, s1, s2, s3, s4, s5, s6, s7, s8, s9, s10⟩; go_simp; with_reducible rfl⟩) (ha : a.put N v = a' := by simp only [Act.put, List.setIfInBounds_toArray, List.set_cons_zero, List.set_cons_succ, i64_w, i32_w]; rfl) : wpAnyLast P md ops Q S ds (fuel + 1) l a w := take_ l' hi hN hc hQ hy hS ha h
theorem tQ12 {i : Nat} {N : Option Tmp} {oi : Oper} {v : Value} {fuel : Nat} {l : Array Bool} {a : Act} {w : World} (l' : Array Bool) (hS : S w) {a' : Act} (h : wpAnyLast P md ops Q S ds fuel l' a' w) (hi : ops[i]? = some oi := by rfl) (hN : oi.dst = N := by rfl) (hc : takeB md ops ds l l' i = true := by exact take_ofW HT_.out HW_.out (by kernel_rfl)) (hQ : ∀ c a w, Q (.panic c) (a.put oi.dst v) w → Q (.panic c) a w := by exact fun _ _ _ h => h) (hy : YieldsIf P ops S oi v a := by exact Or.inl ⟨by rfl, by rintro w' ⟨s0, s1, s2, s3, s4, s5, s6, s7, s8, s9, s10, s11⟩; go_simp; with_reducible rfl⟩) (ha : a.put N v = a' := by simp only [Act.put, List.setIfInBounds_toArray, List.set_cons_zero, List.set_cons_succ, i64_w, i32_w]; rfl) : wpAnyLast P md ops Q S ds (fuel + 1) l a w := take_ l' hi hN hc hQ hy hS ha h
theorem tQ13 {i : Nat} {N : Option Tmp} {oi : Oper} {v : Value} {fuel : Nat} {l : Array Bool} {a : Act} {w : World} (l' : Array Bool) (hS : S w) {a' : Act} (h : wpAnyLast P md ops Q S ds fuel l' a' w) (hi : ops[i]? = some oi := by rfl) (hN : oi.dst = N := by rfl) (hc : takeB md ops ds l l' i = true := by exact take_ofW HT_.out HW_.out (by kernel_rfl)) (hQ : ∀ c a w, Q (.panic c) (a.put oi.dst v) w → Q (.panic c) a w := by exact fun _ _ _ h => h) (hy : YieldsIf P ops S oi v a := by exact Or.inl ⟨by rfl, by rintro w' ⟨s0, s1, s2, s3, s4, s5, s6, s7, s8, s9, s10, s11, s12⟩; go_simp; with_reducible rfl⟩) (ha : a.put N v = a' := by simp only [Act.put, List.setIfInBounds_toArray, List.set_cons_zero, List.set_cons_succ, i64_w, i32_w]; rfl) : wpAnyLast P md ops Q S ds (fuel + 1) l a w := take_ l' hi hN hc hQ hy hS ha h
theorem tQ14 {i : Nat} {N : Option Tmp} {oi : Oper} {v : Value} {fuel : Nat} {l : Array Bool} {a : Act} {w : World} (l' : Array Bool) (hS : S w) {a' : Act} (h : wpAnyLast P md ops Q S ds fuel l' a' w) (hi : ops[i]? = some oi := by rfl) (hN : oi.dst = N := by rfl) (hc : takeB md ops ds l l' i = true := by exact take_ofW HT_.out HW_.out (by kernel_rfl)) (hQ : ∀ c a w, Q (.panic c) (a.put oi.dst v) w → Q (.panic c) a w := by exact fun _ _ _ h => h) (hy : YieldsIf P ops S oi v a := by exact Or.inl ⟨by rfl, by rintro w' ⟨s0, s1, s2, s3, s4, s5, s6, s7, s8, s9, s10, s11, s12, s13⟩; go_simp; with_reducible rfl⟩) (ha : a.put N v = a' := by simp only [Act.put, List.setIfInBounds_toArray, List.set_cons_zero, List.set_cons_succ, i64_w, i32_w]; rfl) : wpAnyLast P md ops Q S ds (fuel + 1) l a w := take_ l' hi hN hc hQ hy hS ha h
theorem tQ15 {i : Nat} {N : Option Tmp} {oi : Oper} {v : Value} {fuel : Nat} {l : Array Bool} {a : Act} {w : World} (l' : Array Bool) (hS : S w) {a' : Act} (h : wpAnyLast P md ops Q S ds fuel l' a' w) (hi : ops[i]? = some oi := by rfl) (hN : oi.dst = N := by rfl) (hc : takeB md ops ds l l' i = true := by exact take_ofW HT_.out HW_.out (by kernel_rfl)) (hQ : ∀ c a w, Q (.panic c) (a.put oi.dst v) w → Q (.panic c) a w := by exact fun _ _ _ h => h) (hy : YieldsIf P ops S oi v a := by exact Or.inl ⟨by rfl, by rintro w' ⟨s0, s1, s2, s3, s4, s5, s6, s7, s8, s9, s10, s11, s12, s13, s14⟩; go_simp; with_reducible rfl⟩) (ha : a.put N v = a' := by simp only [Act.put, List.setIfInBounds_toArray, List.set_cons_zero, List.set_cons_succ, i64_w, i32_w]; rfl) : wpAnyLast P md ops Q S ds (fuel + 1) l a w := take_ l' hi hN hc hQ hy hS ha h
theorem tQ16 {i : Nat} {N : Option Tmp} {oi : Oper} {v : Value} {fuel : Nat} {l : Array Bool} {a : Act} {w : World} (l' : Array Bool) (hS : S w) {a' : Act} (h : wpAnyLast P md ops Q S ds fuel l' a' w) (hi : ops[i]? = some oi := by rfl) (hN : oi.dst = N := by rfl) (hc : takeB md ops ds l l' i = true := by exact take_ofW HT_.out HW_.out (by kernel_rfl)) (hQ : ∀ c a w, Q (.panic c) (a.put oi.dst v) w → Q (.panic c) a w := by exact fun _ _ _ h => h) (hy : YieldsIf P ops S oi v a := by exact Or.inl ⟨by rfl, by rintro w' ⟨s0, s1, s2, s3, s4, s5, s6, s7, s8, s9, s10, s11, s12, s13, s14, s15⟩; go_simp; with_reducible rfl⟩) (ha : a.put N v = a' := by simp only [Act.put, List.setIfInBounds_toArray, List.set_cons_zero, List.set_cons_succ, i64_w, i32_w]; rfl) : wpAnyLast P md ops Q S ds (fuel + 1) l a w := take_ l' hi hN hc hQ hy hS ha h
theorem tQ17 {i : Nat} {N : Option Tmp} {oi : Oper} {v : Value} {fuel : Nat} {l : Array Bool} {a : Act} {w : World} (l' : Array Bool) (hS : S w) {a' : Act} (h : wpAnyLast P md ops Q S ds fuel l' a' w) (hi : ops[i]? = some oi := by rfl) (hN : oi.dst = N := by rfl) (hc : takeB md ops ds l l' i = true := by exact take_ofW HT_.out HW_.out (by kernel_rfl)) (hQ : ∀ c a w, Q (.panic c) (a.put oi.dst v) w → Q (.panic c) a w := by exact fun _ _ _ h => h) (hy : YieldsIf P ops S oi v a := by exact Or.inl ⟨by rfl, by rintro w' ⟨s0, s1, s2, s3, s4, s5, s6, s7, s8, s9, s10, s11, s12, s13, s14, s15, s16⟩; go_simp; with_reducible rfl⟩) (ha : a.put N v = a' := by simp only [Act.put, List.setIfInBounds_toArray, List.set_cons_zero, List.set_cons_succ, i64_w, i32_w]; rfl) : wpAnyLast P md ops Q S ds (fuel + 1) l a w := take_ l' hi hN hc hQ hy hS ha h
theorem tQ18 {i : Nat} {N : Option Tmp} {oi : Oper} {v : Value} {fuel : Nat} {l : Array Bool} {a : Act} {w : World} (l' : Array Bool) (hS : S w) {a' : Act} (h : wpAnyLast P md ops Q S ds fuel l' a' w) (hi : ops[i]? = some oi := by rfl) (hN : oi.dst = N := by rfl) (hc : takeB md ops ds l l' i = true := by exact take_ofW HT_.out HW_.out (by kernel_rfl)) (hQ : ∀ c a w, Q (.panic c) (a.put oi.dst v) w → Q (.panic c) a w := by exact fun _ _ _ h => h) (hy : YieldsIf P ops S oi v a := by exact Or.inl ⟨by rfl, by rintro w' ⟨s0, s1, s2, s3, s4, s5, s6, s7, s8, s9, s10, s11, s12, s13, s14, s15, s16, s17⟩; go_simp; with_reducible rfl⟩) (ha : a.put N v = a' := by simp only [Act.put, List.setIfInBounds_toArray, List.set_cons_zero, List.set_cons_succ, i64_w, i32_w]; rfl) : wpAnyLast P md ops Q S ds (fuel + 1) l a w := take_ l' hi hN hc hQ hy hS ha h
theorem tQ19 {i : Nat} {N : Option Tmp} {oi : Oper} {v : Value} {fuel : Nat} {l : Array Bool} {a : Act} {w : World} (l' : Array Bool) (hS : S w) {a' : Act} (h : wpAnyLast P md ops Q S ds fuel l' a' w) (hi : ops[i]? = some oi := by rfl) (hN : oi.dst = N := by rfl) (hc : takeB md ops ds l l' i = true := by exact take_ofW HT_.out HW_.out (by kernel_rfl)) (hQ : ∀ c a w, Q (.panic c) (a.put oi.dst v) w → Q (.panic c) a w := by exact fun _ _ _ h => h) (hy : YieldsIf P ops S oi v a := by exact Or.inl ⟨by rfl, by rintro w' ⟨s0, s1, s2, s3, s4, s5, s6, s7, s8, s9, s10, s11, s12, s13, s14, s15, s16, s17, s18⟩; go_simp; with_reducible rfl⟩) (ha : a.put N v = a' := by simp only [Act.put, List.setIfInBounds_toArray, List.set_cons_zero, List.set_cons_succ, i64_w, i32_w]; rfl) : wpAnyLast P md ops Q S ds (fuel + 1) l a w := take_ l' hi hN hc hQ hy hS ha h
theorem tQ20 {i : Nat} {N : Option Tmp} {oi : Oper} {v : Value} {fuel : Nat} {l : Array Bool} {a : Act} {w : World} (l' : Array Bool) (hS : S w) {a' : Act} (h : wpAnyLast P md ops Q S ds fuel l' a' w) (hi : ops[i]? = some oi := by rfl) (hN : oi.dst = N := by rfl) (hc : takeB md ops ds l l' i = true := by exact take_ofW HT_.out HW_.out (by kernel_rfl)) (hQ : ∀ c a w, Q (.panic c) (a.put oi.dst v) w → Q (.panic c) a w := by exact fun _ _ _ h => h) (hy : YieldsIf P ops S oi v a := by exact Or.inl ⟨by rfl, by rintro w' ⟨s0, s1, s2, s3, s4, s5, s6, s7, s8, s9, s10, s11, s12, s13, s14, s15, s16, s17, s18, s19⟩; go_simp; with_reducible rfl⟩) (ha : a.put N v = a' := by simp only [Act.put, List.setIfInBounds_toArray, List.set_cons_zero, List.set_cons_succ, i64_w, i32_w]; rfl) : wpAnyLast P md ops Q S ds (fuel + 1) l a w := take_ l' hi hN hc hQ hy hS ha h
theorem tQ21 {i : Nat} {N : Option Tmp} {oi : Oper} {v : Value} {fuel : Nat} {l : Array Bool} {a : Act} {w : World} (l' : Array Bool) (hS : S w) {a' : Act} (h : wpAnyLast P md ops Q S ds fuel l' a' w) (hi : ops[i]? = some oi := by rfl) (hN : oi.dst = N := by rfl) (hc : takeB md ops ds l l' i = true := by exact take_ofW HT_.out HW_.out (by kernel_rfl)) (hQ : ∀ c a w, Q (.panic c) (a.put oi.dst v) w → Q (.panic c) a w := by exact fun _ _ _ h => h) (hy : YieldsIf P ops S oi v a := by exact Or.inl ⟨by rfl, by rintro w' ⟨s0, s1, s2, s3, s4, s5, s6, s7, s8, s9, s10, s11, s12, s13, s14, s15, s16, s17, s18, s19, s20⟩; go_simp; with_reducible rfl⟩) (ha : a.put N v = a' := by simp only [Act.put, List.setIfInBounds_toArray, List.set_cons_zero, List.set_cons_succ, i64_w, i32_w]; rfl) : wpAnyLast P md ops Q S ds (fuel + 1) l a w := take_ l' hi hN hc hQ hy hS ha h
theorem tQ22 {i : Nat} {N : Option Tmp} {oi : Oper} {v : Value} {fuel : Nat} {l : Array Bool} {a : Act} {w : World} (l' : Array Bool) (hS : S w) {a' : Act} (h : wpAnyLast P md ops Q S ds fuel l' a' w) (hi : ops[i]? = some oi := by rfl) (hN : oi.dst = N := by rfl) (hc : takeB md ops ds l l' i = true := by exact take_ofW HT_.out HW_.out (by kernel_rfl)) (hQ : ∀ c a w, Q (.panic c) (a.put oi.dst v) w → Q (.panic c) a w := by exact fun _ _ _ h => h) (hy : YieldsIf P ops S oi v a := by exact Or.inl ⟨by rfl, by rintro w' ⟨s0, s1, s2, s3, s4, s5, s6, s7, s8, s9, s10, s11, s12, s13, s14, s15, s16, s17, s18, s19, s20, s21⟩; go_simp; with_reducible rfl⟩) (ha : a.put N v = a' := by simp only [Act.put, List.setIfInBounds_toArray, List.set_cons_zero, List.set_cons_succ, i64_w, i32_w]; rfl) : wpAnyLast P md ops Q S ds (fuel + 1) l a w := take_ l' hi hN hc hQ hy hS ha h
theorem tQ23 {i : Nat} {N : Option Tmp} {oi : Oper} {v : Value} {fuel : Nat} {l : Array Bool} {a : Act} {w : World} (l' : Array Bool) (hS : S w) {a' : Act} (h : wpAnyLast P md ops Q S ds fuel l' a' w) (hi : ops[i]? = some oi := by rfl) (hN : oi.dst = N := by rfl) (hc : takeB md ops ds l l' i = true := by exact take_ofW HT_.out HW_.out (by kernel_rfl)) (hQ : ∀ c a w, Q (.panic c) (a.put oi.dst v) w → Q (.panic c) a w := by exact fun _ _ _ h => h) (hy : YieldsIf P ops S oi v a := by exact Or.inl ⟨by rfl, by rintro w' ⟨s0, s1, s2, s3, s4, s5, s6, s7, s8, s9, s10, s11, s12, s13, s14, s15, s16, s17, s18, s19, s20, s21, s22⟩; go_simp; with_reducible rfl⟩) (ha : a.put N v = a' := by simp only [Act.put, List.setIfInBounds_toArray, List.set_cons_zero, List.set_cons_succ, i64_w, i32_w]; rfl) : wpAnyLast P md ops Q S ds (fuel + 1) l a w := take_ l' hi hN hc hQ hy hS ha h
theorem tQ24 {i : Nat} {N : Option Tmp} {oi : Oper} {v : Value} {fuel : Nat} {l : Array Bool} {a : Act} {w : World} (l' : Array Bool) (hS : S w) {a' : Act} (h : wpAnyLast P md ops Q S ds fuel l' a' w) (hi : ops[i]? = some oi := by rfl) (hN : oi.dst = N := by rfl) (hc : takeB md ops ds l l' i = true := by exact take_ofW HT_.out HW_.out (by kernel_rfl)) (hQ : ∀ c a w, Q (.panic c) (a.put oi.dst v) w → Q (.panic c) a w := by exact fun _ _ _ h => h) (hy : YieldsIf P ops S oi v a := by exact Or.inl ⟨by rfl, by rintro w' ⟨s0, s1, s2, s3, s4, s5, s6, s7, s8, s9, s10, s11, s12, s13, s14, s15, s16, s17, s18, s19, s20, s21, s22, s23⟩; go_simp; with_reducible rfl⟩) (ha : a.put N v = a' := by simp only [Act.put, List.setIfInBounds_toArray, List.set_cons_zero, List.set_cons_succ, i64_w, i32_w]; rfl) : wpAnyLast P md ops Q S ds (fuel + 1) l a w := take_ l' hi hN hc hQ hy hS ha h
end
/-- n Bools: x's bits, the least first. -/
def bb (n x : Nat) : Array Bool := ((List.range n).map fun i => x.testBit i).toArray
theorem aG {p : Prop} (h : p := by (try simp only [List.map_toArray, List.map_cons, List.map_nil]); first | done | rfl | (simp only [List.length_drop, List.length_take]; rfl)) : p := h
section
variable {P : Program} {ops : Array Oper} {rest : List Oper} {o : Oper} {a : Act} {Q : Exit → Act → World → Prop} {W : World}
theorem bE {N : Tmp} {cs : Array Value} {t : TypeId} (h : ∀ g, g = W.heap.size → ∀ w1, w1.heap[g]? = some (.cells cs t (0, 0)) → Below W.heap.size W w1 → wpList P ops Q rest (a.put o.dst (.pointer (some ⟨g, 0, none⟩))) w1) (hgd : o.guard = none := by rfl) (hd : o.dst = some N := by rfl)
    (hrun : (execOp a.eval o).run P W = .ok (.value (.pointer (some ⟨W.heap.size, 0, none⟩))) (W.alloc (.cells cs t (0, 0))) := by first | (go_simp; done) | (go_simp; rfl)) : wpList P ops Q (o :: rest) a W := box_event hgd hd hrun h
end
theorem eW {p : Prop} (h : p := by first | rfl | (simp [errW_none, errW_some] <;> rfl) | (simp [*, errW_none, errW_some] <;> rfl)) : p := h
end Go.Proofs.Ytghommaokdhjmaa.Gate

/- strings.Compare in the printed texts' form; no condition. -/
set_option linter.unusedVariables false
namespace Go.Proofs.Ytghommaokdhjmaa.P
open Go.RowKit Go.Proofs.YtghommaokdhjmaaW.PrintWords Go.Proofs.Ytghommaokdhjmaa.Str
def strings_Compare.f (a0 : ByteArray) (a1 : ByteArray) : Option (Int) := some (cmpS a0 a1)
theorem strings_Compare.calls (a0 : ByteArray) (a1 : ByteArray) (r : Int) (w : World) (h : strings_Compare.f a0 a1 = some r) :
    Calls Try.prog 60 #[.string a0, .string a1] w fun e w' => e = .returned (.int .i64 r) ∧ Below w.heap.size w w' := by
  obtain rfl := Option.some.inj h
  exact (compare a0 a1 w).mono fun e w' ⟨he, hw⟩ => ⟨he, by rw [hw]; exact Below.refl _ _⟩
end Go.Proofs.Ytghommaokdhjmaa.P
namespace Go.Proofs.Ytghommaokdhjmaa.P
open Go.RowKit Go.Proofs.YtghommaokdhjmaaW.PrintWords Go.Proofs.YtghommaokdhjmaaW.PrintLast Go.Proofs.Ytghommaokdhjmaa.Gate
set_option linter.unusedVariables false
set_option linter.unusedSimpArgs false

/-! ### cmp_isNaN_int: function 100 -/
def cmp_isNaN_int.f (a0 : Int) : Option (Bool) := some (a0 != a0)
set_option maxHeartbeats 8000000 in
set_option maxRecDepth 100000 in
theorem cmp_isNaN_int.calls (a0 : Int) (r : Bool) (w : World) (h : cmp_isNaN_int.f a0 = some r) :
  Calls Try.prog 100 #[.int .i64 a0] w fun e w' => e = .returned (.bool r) ∧ Drawn0 w w' := by
 have H : (some (a0 != a0)) = some r := h
 clear h
 obtain rfl := Option.some.inj H
 go_enter Try.func100, Try.ntmps100
 go_wp2
 go_ret
 exact ⟨by first | rfl | (simp; done) | (simp [*]; done), by repeat (first | exact Drawn0.refl _ | apply Drawn0.step)⟩

end Go.Proofs.Ytghommaokdhjmaa.P
namespace Go.Proofs.Ytghommaokdhjmaa.P
open Go.RowKit Go.Proofs.YtghommaokdhjmaaW.PrintWords Go.Proofs.YtghommaokdhjmaaW.PrintLast Go.Proofs.Ytghommaokdhjmaa.Gate
set_option linter.unusedVariables false
set_option linter.unusedSimpArgs false

/-! ### cmp_Compare_int: function 79 -/
def cmp_Compare_int.f (a0 : Int) (a1 : Int) : Option (Int) := (cmp_isNaN_int.f a0).bind fun t380 => ((cmp_isNaN_int.f a1).bind fun t381 => (if t380 = true then (if t381 = true then (some 0) else (some (-1))) else (if t381 = true then (some 1) else (if a0 < a1 then (some (-1)) else (if a0 > a1 then (some 1) else (some 0))))))
set_option maxHeartbeats 8000000 in
set_option maxRecDepth 100000 in
theorem cmp_Compare_int.calls (a0 : Int) (a1 : Int) (r : Int) (w : World) (h : cmp_Compare_int.f a0 a1 = some r) :
  Calls Try.prog 79 #[.int .i64 a0, .int .i64 a1] w fun e w' => e = .returned (.int .i64 r) ∧ Drawn0 w w' := by
 have H : ((cmp_isNaN_int.f a0).bind fun t380 => ((cmp_isNaN_int.f a1).bind fun t381 => (if t380 = true then (if t381 = true then (some 0) else (some (-1))) else (if t381 = true then (some 1) else (if a0 < a1 then (some (-1)) else (if a0 > a1 then (some 1) else (some 0))))))) = some r := h
 clear h
 replace H := Option.bind_eq_some_iff.mp H
 obtain ⟨t380, A30, H⟩ := H
 replace H : ((cmp_isNaN_int.f a1).bind fun t381 => (if t380 = true then (if t381 = true then (some 0) else (some (-1))) else (if t381 = true then (some 1) else (if a0 < a1 then (some (-1)) else (if a0 > a1 then (some 1) else (some 0)))))) = some r := H
 have A3 := Aside0.mk A30
 clear A30
 replace H := Option.bind_eq_some_iff.mp H
 obtain ⟨t381, A40, H⟩ := H
 replace H : (if t380 = true then (if t381 = true then (some 0) else (some (-1))) else (if t381 = true then (some 1) else (if a0 < a1 then (some (-1)) else (if a0 > a1 then (some 1) else (some 0))))) = some r := H
 have A4 := Aside0.mk A40
 clear A40
 by_cases c5 : t380 = true
 ·subst c5
  have H1 : (if t381 = true then (some 0) else (some (-1))) = some r := by rw [if_pos rfl] at H; exact H
  clear H
  have H := H1
  clear H1
  by_cases c6 : t381 = true
  ·subst c6
   have H1 : (some 0) = some r := by rw [if_pos rfl] at H; exact H
   clear H
   have H := H1
   clear H1
   obtain rfl := Option.some.inj H
   go_enter Try.func79, Try.ntmps79
   go_wp2_with (first | ((with_reducible refine gate_callee (f := 100) rfl ?_); refine goesL_ (some 8) rfl rfl Try.func100 (by kernel_rfl) rfl #[.int .i64 a0] rfl aG ?_; (with_reducible refine (cmp_isNaN_int.calls a0 true _ A3.out).mono ?_); rintro e w' ⟨rfl, ⟨nd, rfl⟩⟩; refine ⟨_, rfl, ?_⟩) | ((with_reducible refine gate_callee (f := 100) rfl ?_); refine goesL_ (some 10) rfl rfl Try.func100 (by kernel_rfl) rfl #[.int .i64 a1] rfl aG ?_; (with_reducible refine (cmp_isNaN_int.calls a1 true _ A4.out).mono ?_); rintro e w' ⟨rfl, ⟨nd, rfl⟩⟩; refine ⟨_, rfl, ?_⟩))
   go_ret
   exact ⟨by first | rfl | (simp; done) | (simp [*]; done), by repeat (first | exact Drawn0.refl _ | apply Drawn0.step)⟩
  ·replace c6 := Bool.eq_false_iff.mpr c6
   subst c6
   have H1 : (some (-1)) = some r := by rw [if_neg (show ¬ (false = true) by decide)] at H; exact H
   clear H
   have H := H1
   clear H1
   obtain rfl := Option.some.inj H
   go_enter Try.func79, Try.ntmps79
   go_wp2_with (first | ((with_reducible refine gate_callee (f := 100) rfl ?_); refine goesL_ (some 8) rfl rfl Try.func100 (by kernel_rfl) rfl #[.int .i64 a0] rfl aG ?_; (with_reducible refine (cmp_isNaN_int.calls a0 true _ A3.out).mono ?_); rintro e w' ⟨rfl, ⟨nd, rfl⟩⟩; refine ⟨_, rfl, ?_⟩) | ((with_reducible refine gate_callee (f := 100) rfl ?_); refine goesL_ (some 10) rfl rfl Try.func100 (by kernel_rfl) rfl #[.int .i64 a1] rfl aG ?_; (with_reducible refine (cmp_isNaN_int.calls a1 false _ A4.out).mono ?_); rintro e w' ⟨rfl, ⟨nd, rfl⟩⟩; refine ⟨_, rfl, ?_⟩))
   go_ret
   exact ⟨by first | rfl | (simp; done) | (simp [*]; done), by repeat (first | exact Drawn0.refl _ | apply Drawn0.step)⟩
 ·replace c5 := Bool.eq_false_iff.mpr c5
  subst c5
  have H1 : (if t381 = true then (some 1) else (if a0 < a1 then (some (-1)) else (if a0 > a1 then (some 1) else (some 0)))) = some r := by rw [if_neg (show ¬ (false = true) by decide)] at H; exact H
  clear H
  have H := H1
  clear H1
  by_cases c7 : t381 = true
  ·subst c7
   have H1 : (some 1) = some r := by rw [if_pos rfl] at H; exact H
   clear H
   have H := H1
   clear H1
   obtain rfl := Option.some.inj H
   go_enter Try.func79, Try.ntmps79
   go_wp2_with (first | ((with_reducible refine gate_callee (f := 100) rfl ?_); refine goesL_ (some 8) rfl rfl Try.func100 (by kernel_rfl) rfl #[.int .i64 a0] rfl aG ?_; (with_reducible refine (cmp_isNaN_int.calls a0 false _ A3.out).mono ?_); rintro e w' ⟨rfl, ⟨nd, rfl⟩⟩; refine ⟨_, rfl, ?_⟩) | ((with_reducible refine gate_callee (f := 100) rfl ?_); refine goesL_ (some 10) rfl rfl Try.func100 (by kernel_rfl) rfl #[.int .i64 a1] rfl aG ?_; (with_reducible refine (cmp_isNaN_int.calls a1 true _ A4.out).mono ?_); rintro e w' ⟨rfl, ⟨nd, rfl⟩⟩; refine ⟨_, rfl, ?_⟩))
   go_ret
   exact ⟨by first | rfl | (simp; done) | (simp [*]; done), by repeat (first | exact Drawn0.refl _ | apply Drawn0.step)⟩
  ·replace c7 := Bool.eq_false_iff.mpr c7
   subst c7
   have H1 : (if a0 < a1 then (some (-1)) else (if a0 > a1 then (some 1) else (some 0))) = some r := by rw [if_neg (show ¬ (false = true) by decide)] at H; exact H
   clear H
   have H := H1
   clear H1
   by_cases c8 : a0 < a1
   ·rw [if_pos c8] at H
    have c8b0 : decide (a0 < a1) = true := decide_eq_true c8
    clear c8
    obtain rfl := Option.some.inj H
    go_enter Try.func79, Try.ntmps79
    go_wp2_with (first | ((with_reducible refine gate_callee (f := 100) rfl ?_); refine goesL_ (some 8) rfl rfl Try.func100 (by kernel_rfl) rfl #[.int .i64 a0] rfl aG ?_; (with_reducible refine (cmp_isNaN_int.calls a0 false _ A3.out).mono ?_); rintro e w' ⟨rfl, ⟨nd, rfl⟩⟩; refine ⟨_, rfl, ?_⟩) | ((with_reducible refine gate_callee (f := 100) rfl ?_); refine goesL_ (some 10) rfl rfl Try.func100 (by kernel_rfl) rfl #[.int .i64 a1] rfl aG ?_; (with_reducible refine (cmp_isNaN_int.calls a1 false _ A4.out).mono ?_); rintro e w' ⟨rfl, ⟨nd, rfl⟩⟩; refine ⟨_, rfl, ?_⟩))
    go_ret
    exact ⟨by first | rfl | (simp; done) | (simp [*]; done), by repeat (first | exact Drawn0.refl _ | apply Drawn0.step)⟩
   ·rw [if_neg c8] at H
    have c8b0 : decide (a0 < a1) = false := decide_eq_false c8
    clear c8
    by_cases c9 : a0 > a1
    ·rw [if_pos c9] at H
     have c9b0 : decide (a1 < a0) = true := decide_eq_true c9
     clear c9
     obtain rfl := Option.some.inj H
     go_enter Try.func79, Try.ntmps79
     go_wp2_with (first | ((with_reducible refine gate_callee (f := 100) rfl ?_); refine goesL_ (some 8) rfl rfl Try.func100 (by kernel_rfl) rfl #[.int .i64 a0] rfl aG ?_; (with_reducible refine (cmp_isNaN_int.calls a0 false _ A3.out).mono ?_); rintro e w' ⟨rfl, ⟨nd, rfl⟩⟩; refine ⟨_, rfl, ?_⟩) | ((with_reducible refine gate_callee (f := 100) rfl ?_); refine goesL_ (some 10) rfl rfl Try.func100 (by kernel_rfl) rfl #[.int .i64 a1] rfl aG ?_; (with_reducible refine (cmp_isNaN_int.calls a1 false _ A4.out).mono ?_); rintro e w' ⟨rfl, ⟨nd, rfl⟩⟩; refine ⟨_, rfl, ?_⟩))
     go_ret
     exact ⟨by first | rfl | (simp; done) | (simp [*]; done), by repeat (first | exact Drawn0.refl _ | apply Drawn0.step)⟩
    ·rw [if_neg c9] at H
     have c9b0 : decide (a1 < a0) = false := decide_eq_false c9
     clear c9
     obtain rfl := Option.some.inj H
     go_enter Try.func79, Try.ntmps79
     go_wp2_with (first | ((with_reducible refine gate_callee (f := 100) rfl ?_); refine goesL_ (some 8) rfl rfl Try.func100 (by kernel_rfl) rfl #[.int .i64 a0] rfl aG ?_; (with_reducible refine (cmp_isNaN_int.calls a0 false _ A3.out).mono ?_); rintro e w' ⟨rfl, ⟨nd, rfl⟩⟩; refine ⟨_, rfl, ?_⟩) | ((with_reducible refine gate_callee (f := 100) rfl ?_); refine goesL_ (some 10) rfl rfl Try.func100 (by kernel_rfl) rfl #[.int .i64 a1] rfl aG ?_; (with_reducible refine (cmp_isNaN_int.calls a1 false _ A4.out).mono ?_); rintro e w' ⟨rfl, ⟨nd, rfl⟩⟩; refine ⟨_, rfl, ?_⟩))
     go_ret
     exact ⟨by first | rfl | (simp; done) | (simp [*]; done), by repeat (first | exact Drawn0.refl _ | apply Drawn0.step)⟩

end Go.Proofs.Ytghommaokdhjmaa.P
namespace Go.Proofs.Ytghommaokdhjmaa.P
open Go.RowKit Go.Proofs.YtghommaokdhjmaaW.PrintWords Go.Proofs.YtghommaokdhjmaaW.PrintLast Go.Proofs.Ytghommaokdhjmaa.Gate
set_option linter.unusedVariables false
set_option linter.unusedSimpArgs false

/-! ### cmp_Or_int: function 78 -/
def cmp_Or_int.l0 : Nat → Int → List Int → Int → Int → Option (Int)
 | 0, _, _, _, _ => none
 | k + 1, x3, x6, x7, x8 => if x8 < x7 then (if 0 ≤ x8 then (if x8 < (x6.length : Int) then (if (rd x6 x8) = x3 then (cmp_Or_int.l0 k x3 x6 x7 (wrap64 (x8 + 1))) else (some (rd x6 x8))) else (none)) else (none)) else (some x3)
def cmp_Or_int.f (k : Nat) (l0 : List Int) : Option (Int) := cmp_Or_int.l0 k 0 l0 (l0.length : Int) 0
theorem cmp_Or_int.mono_l : ∀ k, (∀ y0 y1 y2 y3, LeO (cmp_Or_int.l0 k y0 y1 y2 y3) (cmp_Or_int.l0 (k + 1) y0 y1 y2 y3))
 | 0 => fun _ _ _ _ r h => by simp [cmp_Or_int.l0] at h
 | k + 1 => by
  have ih0 := cmp_Or_int.mono_l k
  ·intro y0 y1 y2 y3
   unfold cmp_Or_int.l0
   repeat' first
   | (with_reducible exact ih0 _ _ _ _)
   | (with_reducible exact LeO.refl _)
   | (with_reducible exact LeO.none _)
   | (with_reducible refine LeO.ite ?_ ?_)
   | (with_reducible refine LeO.bind ?_ (fun _ => ?_))
theorem cmp_Or_int.mono : ∀ a0 k, LeO (cmp_Or_int.f k a0) (cmp_Or_int.f (k + 1) a0) := by
 intro a0 k
 have ih0 := cmp_Or_int.mono_l k
 unfold cmp_Or_int.f
 repeat' first
   | (with_reducible exact ih0 _ _ _ _)
   | (with_reducible exact LeO.refl _)
   | (with_reducible exact LeO.none _)
   | (with_reducible refine LeO.ite ?_ ?_)
   | (with_reducible refine LeO.bind ?_ (fun _ => ?_))
set_option maxHeartbeats 8000000 in
set_option maxRecDepth 100000 in
theorem cmp_Or_int.calls (k : Nat) (A0 : Option Addr) (c0 : Nat) (l0 : List Int) (r : Int) (w : World) (hr0 : Kd.C (Kd.int .i64) w A0 l0.length l0) (hc0 : l0.length ≤ c0) (h : cmp_Or_int.f k l0 = some r) :
  Calls Try.prog 78 #[.slice A0 l0.length c0] w fun e w' => e = .returned (.int .i64 r) ∧ Drawn0 w w' := by
 have HR0 := Aside0.mk hr0
 have HC0 := Aside0.mk hc0
 clear hr0 hc0
 have H : (cmp_Or_int.l0 k 0 l0 (l0.length : Int) 0) = some r := h
 clear h
 have H' := Aside0.mk H
 clear H
 go_enter Try.func78, Try.ntmps78
 go_wp2
 go_loopg [8] k (fun kq v8 w' => ∃ (x8_1 : Int), v8 = .int .i64 x8_1 ∧ Aside0 (cmp_Or_int.l0 kq 0 l0 (l0.length : Int) x8_1 = some r) ∧ Aside0 (kq ≤ k) ∧ Drawn0 w w')
 case atStart => exact ⟨(0), (by first | rfl | (simp; done) | (simp [*]; done)), H', ⟨Nat.le_refl _⟩, by repeat (first | exact Drawn0.refl _ | apply Drawn0.step)⟩
 case round =>
  clear H'
  obtain ⟨x8_1, rfl, HA, HK1, ⟨m1, rfl⟩⟩ := hrel
  cases gk with
  | zero => exact absurd HA.out (by simp [cmp_Or_int.l0])
  | succ k1 =>
   have H := HA.out
   clear HA
   simp only [cmp_Or_int.l0] at H
   by_cases c2 : x8_1 < (l0.length : Int)
   ·rw [if_pos c2] at H
    have c2b0 : decide (x8_1 < (l0.length : Int)) = true := decide_eq_true c2
    clear c2
    by_cases c3 : 0 ≤ x8_1
    ·rw [if_pos c3] at H
     have c3b0 : decide (0 ≤ x8_1) = true := decide_eq_true c3
     clear c3
     by_cases c4 : x8_1 < (l0.length : Int)
     ·rw [if_pos c4] at H
      have c4b0 : decide (x8_1 < (l0.length : Int)) = true := decide_eq_true c4
      clear c4
      by_cases c5 : (rd l0 x8_1) = 0
      ·rw [if_pos c5] at H
       have c5b0 : ((rd l0 x8_1) == 0) = true := beq_iff_eq.mpr c5
       have c5b1 : ((rd l0 x8_1) != 0) = false := bne_eq_false_iff_eq.mpr c5
       clear c5
       have H' := Aside0.mk H
       clear H
       have p379 : 0 ≤ (x8_1 : Int) := of_decide_eq_true (by first | (with_reducible assumption) | assumption)
       have q379 : x8_1 < (l0.length : Int) := of_decide_eq_true (by first | (with_reducible assumption) | assumption)
       obtain ⟨ad379, e379, hx379_0⟩ := Kd.at_int HR0.out x8_1 p379 q379
       cases e379
       replace p379 := eq_true p379
       replace q379 := eq_true q379
       go_wp2
       go_roundg k1
       case measure => have := HK1.out; omega
       case rel => exact ⟨(wrap64 (x8_1 + 1)), (by first | rfl | (simp; done) | (simp [*]; done)), H', ⟨by have := HK1.out; omega⟩, by repeat (first | exact Drawn0.refl _ | apply Drawn0.step)⟩
      ·rw [if_neg c5] at H
       have c5b0 : ((rd l0 x8_1) == 0) = false := beq_eq_false_iff_ne.mpr c5
       have c5b1 : ((rd l0 x8_1) != 0) = true := bne_iff_ne.mpr c5
       obtain rfl := Option.some.inj H
       have p379 : 0 ≤ (x8_1 : Int) := of_decide_eq_true (by first | (with_reducible assumption) | assumption)
       have q379 : x8_1 < (l0.length : Int) := of_decide_eq_true (by first | (with_reducible assumption) | assumption)
       obtain ⟨ad379, e379, hx379_0⟩ := Kd.at_int HR0.out x8_1 p379 q379
       cases e379
       replace p379 := eq_true p379
       replace q379 := eq_true q379
       go_wp2
       go_ret
       exact ⟨by first | rfl | (simp; done) | (simp [*]; done), by repeat (first | exact Drawn0.refl _ | apply Drawn0.step)⟩
     ·rw [if_neg c4] at H
      exact absurd H (by simp)
    ·rw [if_neg c3] at H
     exact absurd H (by simp)
   ·rw [if_neg c2] at H
    have c2b0 : decide (x8_1 < (l0.length : Int)) = false := decide_eq_false c2
    clear c2
    obtain rfl := Option.some.inj H
    go_wp2
    go_ret
    exact ⟨by first | rfl | (simp; done) | (simp [*]; done), by repeat (first | exact Drawn0.refl _ | apply Drawn0.step)⟩

end Go.Proofs.Ytghommaokdhjmaa.P
/- val.Compare, slices.CompareFunc over Values, fact.Compare: their walks and what they answer as plain functions; behind each the world has grown and drawn, and no more (Gr); no condition. -/
set_option linter.unusedVariables false
set_option linter.unusedSimpArgs false
namespace Go.Proofs.Ytghommaokdhjmaa.CmpF
open Go.RowKit Go.Lib Go.Proofs.YtghommaokdhjmaaW.PrintWords Go.Proofs.YtghommaokdhjmaaW.PrintLast Go.Proofs.Ytghommaokdhjmaa.Gate Go.Proofs.Ytghommaokdhjmaa.P Go.Proofs.Ytghommaokdhjmaa.Str
/-- W is w with draws made and blocks laid behind its own. -/
def Gr (w W : World) : Prop := ∃ (n : Nat) (os : Array Obj), W = Go.Sort.grow (w.drewN n) os
theorem Gr.refl (w : World) : Gr w w := ⟨0, #[], by simp [Go.Sort.grow, World.drewN]⟩
theorem Gr.trans {a b c : World} (h : Gr a b) (k : Gr b c) : Gr a c := by
  obtain ⟨n, os, rfl⟩ := h
  obtain ⟨m, os', rfl⟩ := k
  exact ⟨n + m, os ++ os', by simp [Go.Sort.grow, World.drewN, Array.append_assoc, Nat.add_assoc]⟩
theorem Gr.alloc {a b : World} (h : Gr a b) (o : Obj) : Gr a (b.alloc o) := h.trans ⟨0, #[o], Go.Sort.alloc_eq_grow b o⟩
theorem Gr.drewN {a b : World} (h : Gr a b) (n : Nat) : Gr a (b.drewN n) := h.trans ⟨n, #[], by simp⟩
theorem Gr.drew {a b : World} (h : Gr a b) : Gr a b.drew := h.drewN 1
theorem Gr.below {a b : World} (h : Gr a b) : Go.RowKit.Below a.heap.size a b := by
  obtain ⟨n, os, rfl⟩ := h
  exact ⟨rfl, rfl, rfl, by simp, fun k hk => Go.Sort.heap_grow_old (a.drewN n) os hk⟩
theorem Gr.of_drawn {a b : World} (h : Drawn0 a b) : Gr a b := by
  obtain ⟨n, rfl⟩ := h
  exact (Gr.refl a).drewN n
/-- How two whole numbers compare. -/
def ordI (a b : Int) : Int := if a < b then -1 else if a > b then 1 else 0
theorem ordI_eq (a b : Int) : cmp_Compare_int.f a b = some (ordI a b) := by
  unfold cmp_Compare_int.f cmp_isNaN_int.f ordI
  simp only [Option.bind_some]
  have e : ∀ x : Int, (x != x) = false := fun x => bne_self_eq_false x
  simp only [e, Bool.false_eq_true, if_false]
  split
  · rfl
  · split <;> rfl
/-- The first that is not 0. -/
def orL : List Int → Int
  | [] => 0
  | x :: l => if x ≠ 0 then x else orL l
theorem or_loop (l : List Int) (hl : l.length ≤ 1000000) : ∀ (m i : Nat), i + m = l.length → Ev (fun k => cmp_Or_int.l0 k 0 l (l.length : Int) i) (orL (l.drop i)) := by
  intro m
  induction m with
  | zero =>
    intro i h
    refine Ev.step (fun k => by rw [cmp_Or_int.l0, if_neg (by omega)]) ?_
    rw [List.drop_eq_nil_of_le (by omega), orL]
    exact Ev.now _
  | succ m ih =>
    intro i h
    have hi : i < l.length := by omega
    have hrd : rd l (i : Int) = l[i] := by
      unfold rd
      rw [Int.toNat_natCast, List.getD_eq_getElem?_getD, List.getElem?_eq_getElem hi]; rfl
    refine Ev.step (fun k => by rw [cmp_Or_int.l0, if_pos (by omega), if_pos (by omega), if_pos (by omega), hrd]) ?_
    rw [List.drop_eq_getElem_cons hi, orL]
    have hw : wrap64 ((i : Int) + 1) = ((i + 1 : Nat) : Int) := by
      unfold wrap64; omega
    by_cases hz : l[i] = 0
    · rw [if_neg (by simp [hz])]
      simp only [hz, if_true, hw]
      exact ih (i + 1) (by omega)
    · rw [if_pos hz]
      simp only [hz, if_false]
      exact Ev.now _
theorem or_ev (l : List Int) (hl : l.length ≤ 1000000) : Ev (fun k => cmp_Or_int.f k l) (orL l) := by
  have h := or_loop l hl l.length 0 (by omega)
  simpa only [cmp_Or_int.f, List.drop_zero, Int.natCast_zero] using h
/-- How two values compare. -/
def cmpV (x y : S24) : Int := orL [ordI x.f0 y.f0, ordI x.f1 y.f1, cmpS x.f2 y.f2]
/-- How two rows of values compare: the first difference, or the shorter first. -/
def compareL : List S24 → List S24 → Int
  | [], [] => 0
  | [], _ :: _ => -1
  | _ :: _, [] => 1
  | x :: l, y :: m => if cmpV x y = 0 then compareL l m else cmpV x y
theorem rd24_get {l : List S24} {i : Nat} (hi : i < l.length) : rd_T24 l i = l[i] := by
  unfold rd_T24
  rw [Int.toNat_natCast, List.getD_eq_getElem?_getD, List.getElem?_eq_getElem hi]; rfl
/-- Two boxes, laid one behind the other at w's end, in a later world. -/
def Two (w : World) (xs ys : Array Value) (t : TypeId) (W : World) : Prop := Gr w W ∧ W.heap[w.heap.size]? = some (.cells xs t (0, 0)) ∧ W.heap[w.heap.size + 1]? = some (.cells ys t (0, 0))
theorem Two.start (w : World) (xs ys : Array Value) (t : TypeId) : Two w xs ys t ((w.alloc (.cells xs t)).alloc (.cells ys t)) :=
  ⟨((Gr.refl w).alloc _).alloc _, (Go.RowKit.Below.heap_alloc _ _ _ (by simp)).trans (blk_new w _), by have := blk_new (w.alloc (.cells xs t)) (.cells ys t); simpa using this⟩
theorem Two.step {w : World} {xs ys : Array Value} {t : TypeId} {W W' : World} (h : Two w xs ys t W) (hb : Gr W W') : Two w xs ys t W' := ⟨h.1.trans hb, blk_below h.2.1 hb.below, blk_below h.2.2 hb.below⟩
theorem Two.below {w : World} {xs ys : Array Value} {t : TypeId} {W : World} (h : Two w xs ys t W) : Go.RowKit.Below w.heap.size w W := h.1.below
theorem Two.l {w : World} {xs ys : Array Value} {t : TypeId} {W : World} (h : Two w xs ys t W) (i : Nat) : W.cell? ⟨w.heap.size, i, none⟩ = xs[i]? := blk_cell h.2.1 i
theorem Two.r {w : World} {xs ys : Array Value} {t : TypeId} {W : World} (h : Two w xs ys t W) (i : Nat) : W.cell? ⟨w.heap.size + 1, i, none⟩ = ys[i]? := blk_cell h.2.2 i
theorem built3 (W : World) (a b c : Int) (t : TypeId) : Kd.C (Kd.int .i64) (W.alloc (.cells #[.int .i64 a, .int .i64 b, .int .i64 c] t)) (some ⟨W.heap.size, 0, none⟩) 3 [a, b, c] := by
  refine Kd.C_of_reads (enc := Value.int .i64) (d := 0) ⟨rfl, by decide, fun _ => ⟨_, rfl, fun j hj => ?_⟩⟩
  rcases j with _ | _ | _ | j
  · simp [Addr.add]
  · simp [Addr.add]
  · simp [Addr.add]
  · omega
theorem box3 (W : World) (a b c : Value) (t : TypeId) : (W.alloc (.cells #[a, b, c] t)).cell? ⟨W.heap.size, 0, none⟩ = some a ∧ (W.alloc (.cells #[a, b, c] t)).cell? ⟨W.heap.size, 1, none⟩ = some b ∧ (W.alloc (.cells #[a, b, c] t)).cell? ⟨W.heap.size, 2, none⟩ = some c := by
  refine ⟨?_, ?_, ?_⟩ <;> simp
theorem intG (a b : Int) (W : World) : Calls Try.prog 79 #[.int .i64 a, .int .i64 b] W fun e w' => e = .returned (.int .i64 (ordI a b)) ∧ Gr W w' := (cmp_Compare_int.calls _ _ _ W (ordI_eq _ _)).mono fun e w' ⟨he, hd⟩ => ⟨he, .of_drawn hd⟩
theorem strG (a b : ByteArray) (W : World) : Calls Try.prog 60 #[.string a, .string b] W fun e w' => e = .returned (.int .i64 (cmpS a b)) ∧ Gr W w' := (compare a b W).mono fun e w' ⟨he, hw⟩ => ⟨he, by rw [hw]; exact .refl _⟩
theorem orG (a b c : Int) (W : World) (t : TypeId) : Calls Try.prog 78 #[.slice (some ⟨W.heap.size, 0, none⟩) 3 3] (W.alloc (.cells #[.int .i64 a, .int .i64 b, .int .i64 c] t)) fun e w' => e = .returned (.int .i64 (orL [a, b, c])) ∧ Gr W w' := by
  obtain ⟨k, hk⟩ := (or_ev [a, b, c] (by simp)).rounds
  exact (cmp_Or_int.calls k (some ⟨W.heap.size, 0, none⟩) 3 [a, b, c] _ _ (built3 W _ _ _ t) (by simp) hk).mono fun e w' ⟨he, hd⟩ => ⟨he, ((Gr.refl W).alloc _).trans (.of_drawn hd)⟩
end Go.Proofs.Ytghommaokdhjmaa.CmpF
namespace Go.Proofs.Ytghommaokdhjmaa.P
open Go.Shelf Go.RowKit Go.Lib Go.Proofs.YtghommaokdhjmaaW.PrintWords Go.Proofs.YtghommaokdhjmaaW.PrintLast Go.Proofs.Ytghommaokdhjmaa.Gate Go.Proofs.Ytghommaokdhjmaa.Str Go.Proofs.Ytghommaokdhjmaa.CmpF
set_option maxHeartbeats 4000000 in
set_option maxRecDepth 1000000 in
theorem val_calls (x y : S24) (w : World) : Calls Try.prog 81 #[.agg #[.int .i64 x.f0, .int .i64 x.f1, .string x.f2], .agg #[.int .i64 y.f0, .int .i64 y.f1, .string y.f2]] w fun e w' => e = .returned (.int .i64 (cmpV x y)) ∧ Gr w w' := by
  have hu := Try.underlying24
  have G1 := Aside0.mk (intG x.f0 y.f0)
  have G2 := Aside0.mk (intG x.f1 y.f1)
  have G3 := Aside0.mk (strG x.f2 y.f2)
  have GO := Aside0.mk (orG (ordI x.f0 y.f0) (ordI x.f1 y.f1) (cmpS x.f2 y.f2))
  unfold cmpV
  generalize orL [ordI x.f0 y.f0, ordI x.f1 y.f1, cmpS x.f2 y.f2] = q at GO ⊢
  generalize ordI x.f0 y.f0 = q1 at GO G1
  generalize ordI x.f1 y.f1 = q2 at GO G2
  generalize cmpS x.f2 y.f2 = q3 at GO G3
  obtain ⟨x0, x1, x2⟩ := x
  obtain ⟨y0, y1, y2⟩ := y
  have T0 : Aside0 (Two w #[.int .i64 x0, .int .i64 x1, .string x2] #[.int .i64 y0, .int .i64 y1, .string y2] 24 ((w.alloc (.cells #[.int .i64 x0, .int .i64 x1, .string x2] 24)).alloc (.cells #[.int .i64 y0, .int .i64 y1, .string y2] 24))) := Aside0.mk (Two.start w _ _ _)
  go_enter Try.func81, Try.ntmps81
  go_wp2
  have T1 := T0
  clear T0
  generalize (w.alloc (.cells #[.int .i64 x0, .int .i64 x1, .string x2] 24)).alloc (.cells #[.int .i64 y0, .int .i64 y1, .string y2] 24) = w1 at T1 ⊢
  have hd1 := (Gr.refl w1).drew
  have k10 := T1.out.l 0
  have k11 := T1.out.l 1
  have k12 := T1.out.l 2
  have k13 := T1.out.r 0
  have k14 := T1.out.r 1
  have k15 := T1.out.r 2
  go_region_held3 (fun w' => w'.cell? ⟨w.heap.size, 0, none⟩ = some (.int .i64 x0) ∧ w'.cell? ⟨w.heap.size, 1, none⟩ = some (.int .i64 x1) ∧ w'.cell? ⟨w.heap.size, 2, none⟩ = some (.string x2) ∧ w'.cell? ⟨w.heap.size + 1, 0, none⟩ = some (.int .i64 y0) ∧ w'.cell? ⟨w.heap.size + 1, 1, none⟩ = some (.int .i64 y1) ∧ w'.cell? ⟨w.heap.size + 1, 2, none⟩ = some (.string y2))
    (first | go_keep | (refine ⟨?_, ?_, ?_, ?_, ?_, ?_⟩ <;> assumption))
    (first | (go_at_call 79; first | ((with_reducible refine (G1.out _).mono ?_); rintro e w2 ⟨rfl, hb2⟩; have T2 := Aside0.mk (T1.out.step (hd1.trans hb2)); have k20 := T2.out.l 0; have k21 := T2.out.l 1; have k22 := T2.out.l 2; have k23 := T2.out.r 0; have k24 := T2.out.r 1; have k25 := T2.out.r 2) | ((with_reducible refine (G2.out _).mono ?_); rintro e w3 ⟨rfl, hb3⟩; have T3 := Aside0.mk (T2.out.step hb3); have k30 := T3.out.l 0; have k31 := T3.out.l 1; have k32 := T3.out.l 2; have k33 := T3.out.r 0; have k34 := T3.out.r 1; have k35 := T3.out.r 2)) | (go_at_call 60; (with_reducible refine (G3.out _).mono ?_); rintro e w4 ⟨rfl, hb4⟩; have T4 := Aside0.mk (T3.out.step hb4); have k40 := T4.out.l 0; have k41 := T4.out.l 1; have k42 := T4.out.l 2; have k43 := T4.out.r 0; have k44 := T4.out.r 1; have k45 := T4.out.r 2) | (go_at_call 78; (with_reducible refine (GO.out _ _).mono ?_); rintro e w5 ⟨rfl, hb5⟩; have T5 := Aside0.mk (T4.out.step hb5); have k50 := T5.out.l 0; have k51 := T5.out.l 1; have k52 := T5.out.l 2; have k53 := T5.out.r 0; have k54 := T5.out.r 1; have k55 := T5.out.r 2))
  go_wp2
  go_ret
  exact ⟨rfl, T5.out.1⟩
set_option maxHeartbeats 4000000 in
set_option maxRecDepth 1000000 in
theorem compareFunc (A0 : Option Addr) (c0 : Nat) (l0 : List S24) (A1 : Option Addr) (c1 : Nat) (l1 : List S24) (w : World) (hr0 : Kd.C k24 w A0 l0.length l0) (hr1 : Kd.C k24 w A1 l1.length l1) (h0 : l0.length ≤ 1000000) (h1 : l1.length ≤ 1000000) :
    Calls Try.prog 80 #[.slice A0 l0.length c0, .slice A1 l1.length c1, .func (.func 81) #[] #[]] w fun e w' => e = .returned (.int .i64 (compareL l0 l1)) ∧ Gr w w' := by
  have hu24 := Try.underlying24
  have HR0 := Aside0.mk hr0
  have HR1 := Aside0.mk hr1
  have H0 := Aside0.mk h0
  have H1 := Aside0.mk h1
  have eg : ∀ args w, (callFunc 81 args).run Try.prog w = .ok (.enter 81 args) w := enters_of Try.func81 (by kernel_rfl) rfl
  have HE : Aside0 (compareL (l0.drop 0) (l1.drop 0) = compareL l0 l1) := Aside0.mk (by rw [List.drop_zero, List.drop_zero])
  generalize compareL l0 l1 = r at HE ⊢
  clear hr0 hr1 h0 h1
  go_enter Try.func80, Try.ntmps80
  go_wp2
  go_loopg [13] l0.length (fun gg s13 wr => ∃ (i : Nat), s13 = .int .i64 i ∧ i ≤ l0.length ∧ i ≤ l1.length ∧ l0.length - i ≤ gg ∧ Aside0 (compareL (l0.drop i) (l1.drop i) = r) ∧ Aside0 (Gr w wr))
  case atStart => exact ⟨0, rfl, Nat.zero_le _, Nat.zero_le _, by omega, HE, Aside0.mk (Gr.refl _)⟩
  case round =>
    clear HE
    obtain ⟨i, rfl, hi, hj, hg, HE, HB⟩ := hrel
    by_cases hlt : i < l0.length
    · have HLt := Aside0.mk hlt
      have hltz : (i : Int) < (l0.length : Int) := by omega
      have hge : (0 : Int) ≤ (i : Int) := by omega
      obtain ⟨ad, eA, x0, x1, x2⟩ := at_T24 (Kd.C_below HR0.out HB.out.below) (i : Int) (by omega) hltz
      by_cases hl2 : i < l1.length
      · have HL2 := Aside0.mk hl2
        have hltv : (i : Int) < (l1.length : Int) := by omega
        have hnge : ¬ (i : Int) ≥ (l1.length : Int) := by omega
        have hnge2 : ¬ (l1.length : Int) ≤ (i : Int) := by omega
        obtain ⟨ad2, eB, y0, y1, y2⟩ := at_T24 (Kd.C_below HR1.out HB.out.below) (i : Int) (by omega) hltv
        have hd0 : l0.drop i = rd_T24 l0 i :: l0.drop (i + 1) := by rw [rd24_get hlt]; exact List.drop_eq_getElem_cons hlt
        have hd1 : l1.drop i = rd_T24 l1 i :: l1.drop (i + 1) := by rw [rd24_get hl2]; exact List.drop_eq_getElem_cons hl2
        rw [hd0, hd1] at HE
        simp only [Int.toNat_natCast] at x0 x1 x2 y0 y1 y2
        generalize rd_T24 l0 (i : Int) = x at HE x0 x1 x2
        generalize rd_T24 l1 (i : Int) = y at HE y0 y1 y2
        clear hd0 hd1
        cases eA
        cases eB
        have hcall := fun W => val_calls x y W
        have hb2 : Go.RowKit.Below wr.heap.size wr (wr.alloc (.cells #[.int .i64 x.f0, .int .i64 x.f1, .string x.f2] 24)) := (Go.RowKit.Below.refl _ wr).alloc (Nat.le_refl _) _
        have z0 := (hb2.cell (World.block_lt_of_cell? wr _ y0)).trans y0
        have z1 := (hb2.cell (World.block_lt_of_cell? wr _ y1)).trans y1
        have z2 := (hb2.cell (World.block_lt_of_cell? wr _ y2)).trans y2
        clear hb2 y0 y1 y2
        have hb3 : ∀ W', Gr ((wr.alloc (.cells #[.int .i64 x.f0, .int .i64 x.f1, .string x.f2] 24)).alloc (.cells #[.int .i64 y.f0, .int .i64 y.f1, .string y.f2] 24)) W' → Gr w W' := fun W' h => HB.out.trans ((((Gr.refl wr).alloc _).alloc _).trans h)
        have HB3 := Aside0.mk hb3
        clear hb3
        by_cases hq : cmpV x y = 0
        · have HE2 : Aside0 (compareL (l0.drop (i + 1)) (l1.drop (i + 1)) = r) := by
            have := HE.out
            rw [compareL, if_pos hq] at this
            exact Aside0.mk this
          rw [hq] at hcall
          clear HE hq
          go_wp2_with (go_at_fn 81; with_reducible refine (hcall _).mono ?_; rintro e w' ⟨rfl, hb'⟩)
          go_roundg (l0.length - (i + 1))
          case measure => have h1_ := HLt.out; have h2_ := hg; omega
          case rel => exact ⟨i + 1, by rw [show wrap64 ((i : Int) + 1) = ((i + 1 : Nat) : Int) by (have h1_ := HLt.out; have h2_ := H0.out; unfold wrap64; omega)], HLt.out, HL2.out, by have := HLt.out; omega, HE2, Aside0.mk (HB3.out _ hb')⟩
        · have he : cmpV x y = r := by
            have := HE.out
            rwa [compareL, if_neg hq] at this
          rw [he] at hcall hq
          clear HE he
          go_wp2_with (go_at_fn 81; with_reducible refine (hcall _).mono ?_; rintro e w' ⟨rfl, hb'⟩)
          go_ret
          exact ⟨rfl, HB3.out _ hb'⟩
      · have hge2 : (l1.length : Int) ≤ (i : Int) := by omega
        have hd0 : l0.drop i = rd_T24 l0 i :: l0.drop (i + 1) := by rw [rd24_get hlt]; exact List.drop_eq_getElem_cons hlt
        obtain rfl : r = 1 := by
          have := HE.out
          rw [hd0, List.drop_eq_nil_of_le (show l1.length ≤ i by omega), compareL] at this
          exact this.symm
        simp only [Int.toNat_natCast] at x0 x1 x2
        clear hd0 HE
        generalize rd_T24 l0 (i : Int) = x at x0 x1 x2
        cases eA
        go_wp2
        go_ret
        exact ⟨rfl, HB.out.trans ((Gr.refl wr).alloc _)⟩
    · have hnlt : ¬ (i : Int) < (l0.length : Int) := by omega
      have hd0 : l0.drop i = [] := List.drop_eq_nil_of_le (by omega)
      by_cases hl2 : i < l1.length
      · have hl3 : (l0.length : Int) < (l1.length : Int) := by omega
        obtain rfl : r = -1 := by
          have := HE.out
          rw [hd0, List.drop_eq_getElem_cons hl2, compareL] at this
          exact this.symm
        clear HE hd0
        go_wp2
        go_ret
        exact ⟨rfl, HB.out⟩
      · have hl3 : ¬ (l0.length : Int) < (l1.length : Int) := by omega
        obtain rfl : r = 0 := by
          have := HE.out
          rw [hd0, List.drop_eq_nil_of_le (show l1.length ≤ i by omega), compareL] at this
          exact this.symm
        clear HE hd0
        go_wp2
        go_ret
        exact ⟨rfl, HB.out⟩
/-- How two facts compare: by name, by how many values, value by value. -/
def factCmp (x : ByteArray) (l : List S24) (y : ByteArray) (m : List S24) : Int := orL [cmpS x y, ordI (l.length : Int) (m.length : Int), compareL l m]
def fact_Compare.f (a0_0 : ByteArray) (l0_1 : List (S24)) (a1_0 : ByteArray) (l1_1 : List (S24)) : Option (Int) := if l0_1.length ≤ 1000000 ∧ l1_1.length ≤ 1000000 then some (factCmp a0_0 l0_1 a1_0 l1_1) else none
set_option maxHeartbeats 4000000 in
set_option maxRecDepth 1000000 in
theorem fact_Compare.grown (a0_0 : ByteArray) (A0_1 : Option Addr) (c0_1 : Nat) (l0_1 : List (S24)) (a1_0 : ByteArray) (A1_1 : Option Addr) (c1_1 : Nat) (l1_1 : List (S24)) (r : Int) (w : World) (hr0_1 : Kd.C k24 w A0_1 l0_1.length l0_1) (hc0_1 : l0_1.length ≤ c0_1) (hr1_1 : Kd.C k24 w A1_1 l1_1.length l1_1) (hc1_1 : l1_1.length ≤ c1_1) (h : fact_Compare.f a0_0 l0_1 a1_0 l1_1 = some r) :
    Calls Try.prog 48 #[.agg #[.string a0_0, .slice A0_1 l0_1.length c0_1], .agg #[.string a1_0, .slice A1_1 l1_1.length c1_1]] w fun e w' => e = .returned (.int .i64 r) ∧ Gr w w' := by
  have hfit : l0_1.length ≤ 1000000 ∧ l1_1.length ≤ 1000000 := by
    unfold fact_Compare.f at h
    by_cases hc : l0_1.length ≤ 1000000 ∧ l1_1.length ≤ 1000000
    · exact hc
    · rw [if_neg hc] at h; cases h
  obtain rfl : factCmp a0_0 l0_1 a1_0 l1_1 = r := by
    unfold fact_Compare.f at h
    rw [if_pos hfit] at h
    exact Option.some.inj h
  clear h
  have hu53 := Try.underlying53
  have G60 := Aside0.mk (strG a0_0 a1_0)
  have G79 := Aside0.mk (intG (l0_1.length : Int) (l1_1.length : Int))
  have G80 : Aside0 (∀ W, Go.RowKit.Below w.heap.size w W → Calls Try.prog 80 #[.slice A0_1 l0_1.length c0_1, .slice A1_1 l1_1.length c1_1, .func (.func 81) #[] #[]] W fun e w' => e = .returned (.int .i64 (compareL l0_1 l1_1)) ∧ Gr W w') := ⟨fun W hW => compareFunc A0_1 c0_1 l0_1 A1_1 c1_1 l1_1 W (Kd.C_below hr0_1 hW) (Kd.C_below hr1_1 hW) hfit.1 hfit.2⟩
  have GO := Aside0.mk (orG (cmpS a0_0 a1_0) (ordI (l0_1.length : Int) (l1_1.length : Int)) (compareL l0_1 l1_1))
  unfold factCmp
  generalize orL [cmpS a0_0 a1_0, ordI (l0_1.length : Int) (l1_1.length : Int), compareL l0_1 l1_1] = q at GO ⊢
  generalize cmpS a0_0 a1_0 = q1 at GO G60
  generalize ordI (l0_1.length : Int) (l1_1.length : Int) = q2 at GO G79
  generalize compareL l0_1 l1_1 = q3 at GO G80
  clear hr0_1 hr1_1 hc0_1 hc1_1 hfit
  have T0 : Aside0 (Two w #[.string a0_0, .slice A0_1 l0_1.length c0_1] #[.string a1_0, .slice A1_1 l1_1.length c1_1] 53 ((w.alloc (.cells #[.string a0_0, .slice A0_1 l0_1.length c0_1] 53)).alloc (.cells #[.string a1_0, .slice A1_1 l1_1.length c1_1] 53))) := Aside0.mk (Two.start w _ _ _)
  generalize l0_1.length = n0 at *
  generalize l1_1.length = n1 at *
  go_enter Try.func48, Try.ntmps48
  go_wp2
  have T1 := T0
  clear T0
  generalize (w.alloc (.cells #[.string a0_0, .slice A0_1 n0 c0_1] 53)).alloc (.cells #[.string a1_0, .slice A1_1 n1 c1_1] 53) = w1 at T1 ⊢
  have k10 := T1.out.l 0; have k11 := T1.out.l 1; have k12 := T1.out.r 0; have k13 := T1.out.r 1
  have hd1 := (Gr.refl w1).drew
  go_region_held3 (fun w' => w'.cell? ⟨w.heap.size, 0, none⟩ = some (.string a0_0) ∧ w'.cell? ⟨w.heap.size, 1, none⟩ = some (.slice A0_1 n0 c0_1) ∧ w'.cell? ⟨w.heap.size + 1, 0, none⟩ = some (.string a1_0) ∧ w'.cell? ⟨w.heap.size + 1, 1, none⟩ = some (.slice A1_1 n1 c1_1))
    (first | go_keep | (refine ⟨?_, ?_, ?_, ?_⟩ <;> assumption))
    (first | (go_at_call 60; (with_reducible refine (G60.out _).mono ?_); rintro e w2 ⟨rfl, hb2⟩; have T2 := Aside0.mk (T1.out.step (hd1.trans hb2)); have k20 := T2.out.l 0; have k21 := T2.out.l 1; have k22 := T2.out.r 0; have k23 := T2.out.r 1) | (go_at_call 79; (with_reducible refine (G79.out _).mono ?_); rintro e w3 ⟨rfl, hb3⟩; have T3 := Aside0.mk (T2.out.step hb3); have k30 := T3.out.l 0; have k31 := T3.out.l 1; have k32 := T3.out.r 0; have k33 := T3.out.r 1) | (go_at_call 80; (with_reducible refine (G80.out _ T3.out.below).mono ?_); rintro e w4 ⟨rfl, hb4⟩; have T4 := Aside0.mk (T3.out.step hb4); have k40 := T4.out.l 0; have k41 := T4.out.l 1; have k42 := T4.out.r 0; have k43 := T4.out.r 1) | (go_at_call 78; (with_reducible refine (GO.out _ _).mono ?_); rintro e w5 ⟨rfl, hb5⟩; have T5 := Aside0.mk (T4.out.step hb5); have k50 := T5.out.l 0; have k51 := T5.out.l 1; have k52 := T5.out.r 0; have k53 := T5.out.r 1))
  go_wp2
  go_ret
  exact ⟨rfl, T5.out.1⟩
theorem fact_Compare.calls (a0_0 : ByteArray) (A0_1 : Option Addr) (c0_1 : Nat) (l0_1 : List (S24)) (a1_0 : ByteArray) (A1_1 : Option Addr) (c1_1 : Nat) (l1_1 : List (S24)) (r : Int) (w : World) (hr0_1 : Kd.C k24 w A0_1 l0_1.length l0_1) (hc0_1 : l0_1.length ≤ c0_1) (hr1_1 : Kd.C k24 w A1_1 l1_1.length l1_1) (hc1_1 : l1_1.length ≤ c1_1) (h : fact_Compare.f a0_0 l0_1 a1_0 l1_1 = some r) :
    Calls Try.prog 48 #[.agg #[.string a0_0, .slice A0_1 l0_1.length c0_1], .agg #[.string a1_0, .slice A1_1 l1_1.length c1_1]] w fun e w' => e = .returned (.int .i64 r) ∧ Go.RowKit.Below w.heap.size w w' :=
  (fact_Compare.grown a0_0 A0_1 c0_1 l0_1 a1_0 A1_1 c1_1 l1_1 r w hr0_1 hc0_1 hr1_1 hc1_1 h).mono fun e w' ⟨he, hb⟩ => ⟨he, hb.below⟩
end Go.Proofs.Ytghommaokdhjmaa.P
/- Plain law of slices.SortStableFunc's merging: swapRange, rotate, symMerge as functions over an array; symMerge of two sorted parts is a sorted permutation. No condition but that 'less' is a strict weak order. -/
set_option linter.unusedVariables false
namespace Go.Proofs.SymP
open Go.Sort
variable {α : Type} [Inhabited α]

/-- 'for i := 0; i < n; i++ { swap a+i, b+i }', from i, r rounds left. -/
def swapFrom (a b : Nat) : Nat → Nat → Array α → Array α
  | _, 0, d => d
  | i, r + 1, d => swapFrom a b (i + 1) r (swp d (a + i) (b + i))
def swapRange (d : Array α) (a b n : Nat) : Array α := swapFrom a b 0 n d

def rotLoop (m : Nat) : Nat → Nat → Nat → Array α → Array α
  | 0, _, _, d => d
  | f + 1, i, j, d =>
    if i = j then swapRange d (m - i) m i
    else if j < i then rotLoop m f (i - j) j (swapRange d (m - i) m j)
    else rotLoop m f i (j - i) (swapRange d (m - i) (m + j - i) i)
theorem rotLoop_succ (m f i j : Nat) (d : Array α) : rotLoop m (f + 1) i j d = if i = j then swapRange d (m - i) m i
    else if j < i then rotLoop m f (i - j) j (swapRange d (m - i) m j)
    else rotLoop m f i (j - i) (swapRange d (m - i) (m + j - i) i) := rfl
def rotate (d : Array α) (a m b : Nat) : Array α := rotLoop m (b - a) (m - a) (b - m) d

/-- The binary searches: the first place in [i, j) where q fails, if q rises there. -/
def bs (q : Nat → Bool) : Nat → Nat → Nat → Nat
  | 0, i, _ => i
  | f + 1, i, j => if i < j then (if q ((i + j) / 2) = true then bs q f ((i + j) / 2 + 1) j else bs q f i ((i + j) / 2)) else i
theorem bs_yes (q : Nat → Bool) (f i j : Nat) (h : i < j) (hq : q ((i + j) / 2) = true) : bs q (f + 1) i j = bs q f ((i + j) / 2 + 1) j := by rw [bs, if_pos h, if_pos hq]
theorem bs_no (q : Nat → Bool) (f i j : Nat) (h : i < j) (hq : q ((i + j) / 2) = false) : bs q (f + 1) i j = bs q f i ((i + j) / 2) := by rw [bs, if_pos h, if_neg (by rw [hq]; simp)]
theorem bs_end (q : Nat → Bool) (f i j : Nat) (h : ¬ i < j) : bs q f i j = i := by
  cases f with
  | zero => rfl
  | succ f => rw [bs, if_neg h]
def bubUp : Nat → Nat → Array α → Array α
  | 0, _, d => d
  | r + 1, k, d => bubUp r (k + 1) (swp d k (k + 1))
def bubDown : Nat → Nat → Array α → Array α
  | 0, _, d => d
  | r + 1, k, d => bubDown r (k - 1) (swp d k (k - 1))

def symMerge (lt : α → α → Bool) : Nat → Array α → Nat → Nat → Nat → Array α
  | 0, d, _, _, _ => d
  | f + 1, d, a, m, b =>
    if m - a = 1 then bubUp (bs (fun h => lt d[h]! d[a]!) (b - m) m b - 1 - a) a d
    else if b - m = 1 then bubDown (m - bs (fun h => !lt d[m]! d[h]!) (m - a) a m) m d
    else
      let mid := (a + b) / 2
      let n := mid + m
      let s0 := if mid < m then n - b else a
      let r0 := if mid < m then mid else m
      let st := bs (fun c => !lt d[n - 1 - c]! d[c]!) (r0 - s0) s0 r0
      let e := n - st
      let d1 := if st < m ∧ m < e then rotate d st m e else d
      let d2 := if a < st ∧ st < mid then symMerge lt f d1 a st mid else d1
      if mid < e ∧ e < b then symMerge lt f d2 mid e b else d2

theorem symMerge_up (lt : α → α → Bool) (f : Nat) (d : Array α) (a m b : Nat) (h : m - a = 1) : symMerge lt (f + 1) d a m b = bubUp (bs (fun h => lt d[h]! d[a]!) (b - m) m b - 1 - a) a d := by rw [symMerge, if_pos h]
theorem symMerge_down (lt : α → α → Bool) (f : Nat) (d : Array α) (a m b : Nat) (h : ¬ m - a = 1) (h2 : b - m = 1) : symMerge lt (f + 1) d a m b = bubDown (m - bs (fun h => !lt d[m]! d[h]!) (m - a) a m) m d := by rw [symMerge, if_neg h, if_pos h2]
theorem symMerge_mid (lt : α → α → Bool) (f : Nat) (d d1 d2 : Array α) (a m b mid s0 r0 st e : Nat) (h : ¬ m - a = 1) (h2 : ¬ b - m = 1) (hmid : (a + b) / 2 = mid) (hs0 : (if mid < m then mid + m - b else a) = s0) (hr0 : (if mid < m then mid else m) = r0)
    (hst : bs (fun c => !lt d[mid + m - 1 - c]! d[c]!) (r0 - s0) s0 r0 = st) (he : mid + m - st = e) (h1 : (if st < m ∧ m < e then rotate d st m e else d) = d1) (hd2 : (if a < st ∧ st < mid then symMerge lt f d1 a st mid else d1) = d2) :
    symMerge lt (f + 1) d a m b = (if mid < e ∧ e < b then symMerge lt f d2 mid e b else d2) := by
  subst hmid hs0 hr0 hst he h1 hd2
  rw [symMerge, if_neg h, if_neg h2]

theorem size_swapFrom (a b : Nat) : ∀ (r i : Nat) (d : Array α), (swapFrom a b i r d).size = d.size
  | 0, _, _ => rfl
  | r + 1, i, d => by rw [swapFrom, size_swapFrom a b r, swp_size]
theorem size_swapRange (d : Array α) (a b n : Nat) : (swapRange d a b n).size = d.size := size_swapFrom a b n 0 d
theorem size_rotLoop (m : Nat) : ∀ (f i j : Nat) (d : Array α), (rotLoop m f i j d).size = d.size
  | 0, _, _, _ => rfl
  | f + 1, i, j, d => by
    unfold rotLoop
    split
    · exact size_swapRange _ _ _ _
    · split
      · rw [size_rotLoop m f, size_swapRange]
      · rw [size_rotLoop m f, size_swapRange]
theorem size_rotate (d : Array α) (a m b : Nat) : (rotate d a m b).size = d.size := size_rotLoop _ _ _ _ _
theorem size_bubUp : ∀ (r k : Nat) (d : Array α), (bubUp r k d).size = d.size
  | 0, _, _ => rfl
  | r + 1, k, d => by rw [bubUp, size_bubUp r, swp_size]
theorem size_bubDown : ∀ (r k : Nat) (d : Array α), (bubDown r k d).size = d.size
  | 0, _, _ => rfl
  | r + 1, k, d => by rw [bubDown, size_bubDown r, swp_size]
theorem size_symMerge (lt : α → α → Bool) : ∀ (f : Nat) (d : Array α) (a m b : Nat), (symMerge lt f d a m b).size = d.size
  | 0, _, _, _, _ => rfl
  | f + 1, d, a, m, b => by
    unfold symMerge
    split
    · exact size_bubUp _ _ _
    · split
      · exact size_bubDown _ _ _
      · dsimp only
        have h1 : ∀ c : Prop, ∀ _ : Decidable c, ∀ x y z : Nat, (if c then rotate d x y z else d).size = d.size := by
          intro c _ x y z
          split
          · exact size_rotate _ _ _ _
          · rfl
        have h2 : ∀ c : Prop, ∀ _ : Decidable c, ∀ (u : Array α) (x y z : Nat), u.size = d.size → (if c then symMerge lt f u x y z else u).size = d.size := by
          intro c _ u x y z hu
          split
          · rw [size_symMerge lt f]; exact hu
          · exact hu
        exact h2 _ _ _ _ _ _ (h2 _ _ _ _ _ _ (h1 _ _ _ _ _))

/-- What swapFrom leaves, place by place. -/
theorem swapFrom_get (a b : Nat) : ∀ (r i : Nat) (d : Array α), a + i + r ≤ b + i → b + i + r ≤ d.size → ∀ x,
    (swapFrom a b i r d)[x]! = if a + i ≤ x ∧ x < a + i + r then d[x - a + b]! else if b + i ≤ x ∧ x < b + i + r then d[x - b + a]! else d[x]!
  | 0, i, d, h1, h2, x => by
    rw [swapFrom, if_neg (by omega), if_neg (by omega)]
  | r + 1, i, d, h1, h2, x => by
    rw [swapFrom, swapFrom_get a b r (i + 1) _ (by omega) (by rw [swp_size]; omega) x]
    have g := fun y => swp_get d (i := a + i) (j := b + i) (by omega) (by omega) y
    by_cases c1 : a + i ≤ x ∧ x < a + i + (r + 1)
    · rw [if_pos c1]
      by_cases e : x = a + i
      · rw [if_neg (by omega), if_neg (by omega), g, if_neg (by omega), if_pos e]
        congr 1; omega
      · rw [if_pos (by omega), g, if_neg (by omega), if_neg (by omega)]
    · rw [if_neg c1]
      by_cases c2 : b + i ≤ x ∧ x < b + i + (r + 1)
      · rw [if_pos c2]
        by_cases e : x = b + i
        · rw [if_neg (by omega), if_neg (by omega), g, if_pos e]
          congr 1; omega
        · rw [if_neg (by omega), if_pos (by omega), g, if_neg (by omega), if_neg (by omega)]
      · rw [if_neg c2, if_neg (by omega), if_neg (by omega), g, if_neg (by omega), if_neg (by omega)]

theorem swapRange_get (d : Array α) (a b n : Nat) (h1 : a + n ≤ b) (h2 : b + n ≤ d.size) (x : Nat) :
    (swapRange d a b n)[x]! = if a ≤ x ∧ x < a + n then d[x - a + b]! else if b ≤ x ∧ x < b + n then d[x - b + a]! else d[x]! := by
  have := swapFrom_get a b n 0 d (by omega) (by omega) x
  simpa [swapRange] using this

theorem swapFrom_perm (lo hi a b : Nat) : ∀ (r i : Nat) (d : Array α), lo ≤ a + i → a + i + r ≤ hi → lo ≤ b + i → b + i + r ≤ hi → hi ≤ d.size → PermIn lo hi d (swapFrom a b i r d)
  | 0, i, d, _, _, _, _, _ => permIn_refl d lo hi
  | r + 1, i, d, h1, h2, h3, h4, h5 => by
    rw [swapFrom]
    exact permIn_trans _ _ _ _ _ (swp_permIn d lo hi (a + i) (b + i) (by omega) (by omega) (by omega) (by omega) h5) (swapFrom_perm lo hi a b r (i + 1) _ (by omega) (by omega) (by omega) (by omega) (by rw [swp_size]; exact h5))
theorem swapRange_perm (lo hi a b n : Nat) (d : Array α) (h1 : lo ≤ a) (h2 : a + n ≤ hi) (h3 : lo ≤ b) (h4 : b + n ≤ hi) (h5 : hi ≤ d.size) : PermIn lo hi d (swapRange d a b n) :=
  swapFrom_perm lo hi a b n 0 d (by omega) (by omega) (by omega) (by omega) h5

/-- rotate: the left i and the right j change places. -/
theorem rotLoop_get (m : Nat) : ∀ (f i j : Nat) (d : Array α), i + j ≤ f → 1 ≤ i → 1 ≤ j → i ≤ m → m + j ≤ d.size → ∀ x,
    (rotLoop m f i j d)[x]! = if m - i ≤ x ∧ x < m - i + j then d[x + i]! else if m - i + j ≤ x ∧ x < m + j then d[x - j]! else d[x]!
  | 0, i, j, d, hf, hi, hj, him, hsz, x => by omega
  | f + 1, i, j, d, hf, hi, hj, him, hsz, x => by
    unfold rotLoop
    by_cases e : i = j
    · rw [if_pos e, swapRange_get d (m - i) m i (by omega) (by omega) x]
      by_cases c1 : m - i ≤ x ∧ x < m - i + j
      · rw [if_pos (by omega), if_pos c1]; congr 1; omega
      · rw [if_neg (by omega), if_neg c1]
        by_cases c2 : m - i + j ≤ x ∧ x < m + j
        · rw [if_pos (by omega), if_pos c2]; congr 1; omega
        · rw [if_neg (by omega), if_neg c2]
    · rw [if_neg e]
      by_cases e2 : j < i
      · rw [if_pos e2, rotLoop_get m f (i - j) j _ (by omega) (by omega) hj (by omega) (by rw [size_swapRange]; exact hsz) x]
        have g := fun y => swapRange_get d (m - i) m j (by omega) (by omega) y
        by_cases c1 : m - i ≤ x ∧ x < m - i + j
        · rw [if_neg (by omega), if_neg (by omega), if_pos c1, g, if_pos c1]; congr 1; omega
        · rw [if_neg c1]
          by_cases c2 : m - i + j ≤ x ∧ x < m + j
          · rw [if_pos c2]
            by_cases c3 : x < m - i + j + j
            · rw [if_pos (by omega), g, if_neg (by omega), if_pos (by omega)]; congr 1; omega
            · rw [if_neg (by omega), if_pos (by omega), g, if_neg (by omega), if_neg (by omega)]
          · rw [if_neg c2, if_neg (by omega), if_neg (by omega), g, if_neg (by omega), if_neg (by omega)]
      · rw [if_neg e2, rotLoop_get m f i (j - i) _ (by omega) hi (by omega) him (by rw [size_swapRange]; omega) x]
        have g := fun y => swapRange_get d (m - i) (m + j - i) i (by omega) (by omega) y
        by_cases c1 : m - i ≤ x ∧ x < m - i + j
        · rw [if_pos c1]
          by_cases c3 : x < m - i + (j - i)
          · rw [if_pos (by omega), g, if_neg (by omega), if_neg (by omega)]
          · rw [if_neg (by omega), if_pos (by omega), g, if_pos (by omega)]; congr 1; omega
        · rw [if_neg c1]
          by_cases c2 : m - i + j ≤ x ∧ x < m + j
          · rw [if_pos c2, if_neg (by omega), if_neg (by omega), g, if_neg (by omega), if_pos (by omega)]; congr 1; omega
          · rw [if_neg c2, if_neg (by omega), if_neg (by omega), g, if_neg (by omega), if_neg (by omega)]
theorem rotate_get (d : Array α) (a m b : Nat) (h1 : a < m) (h2 : m < b) (h3 : b ≤ d.size) (x : Nat) :
    (rotate d a m b)[x]! = if a ≤ x ∧ x < a + (b - m) then d[x + (m - a)]! else if a + (b - m) ≤ x ∧ x < b then d[x - (b - m)]! else d[x]! := by
  unfold rotate
  rw [rotLoop_get m (b - a) (m - a) (b - m) d (by omega) (by omega) (by omega) (by omega) (by omega) x]
  have e1 : m - (m - a) = a := by omega
  have e2 : m + (b - m) = b := by omega
  rw [e1, e2]
theorem rotLoop_perm (lo hi m : Nat) : ∀ (f i j : Nat) (d : Array α), i ≤ m → lo ≤ m - i → m + j ≤ hi → hi ≤ d.size → PermIn lo hi d (rotLoop m f i j d)
  | 0, _, _, d, _, _, _, _ => permIn_refl d lo hi
  | f + 1, i, j, d, h1, h2, h3, h4 => by
    unfold rotLoop
    split
    · rename_i e
      exact swapRange_perm lo hi _ _ _ d h2 (by omega) (by omega) (by omega) h4
    · split
      · exact permIn_trans _ _ _ _ _ (swapRange_perm lo hi _ _ _ d h2 (by omega) (by omega) (by omega) h4) (rotLoop_perm lo hi m f _ _ _ (by omega) (by omega) h3 (by rw [size_swapRange]; exact h4))
      · exact permIn_trans _ _ _ _ _ (swapRange_perm lo hi _ _ _ d h2 (by omega) (by omega) (by omega) h4) (rotLoop_perm lo hi m f _ _ _ h1 h2 (by omega) (by rw [size_swapRange]; exact h4))
theorem rotate_perm (d : Array α) (lo hi a m b : Nat) (h0 : lo ≤ a) (h1 : a ≤ m) (h2 : m ≤ b) (h3 : b ≤ hi) (h4 : hi ≤ d.size) : PermIn lo hi d (rotate d a m b) :=
  rotLoop_perm lo hi m _ _ _ d (by omega) (by omega) (by omega) h4

/-- The binary search: what it says of q at its end. -/
theorem bs_spec (q : Nat → Bool) : ∀ (f i j : Nat), i ≤ j → j - i ≤ f →
    i ≤ bs q f i j ∧ bs q f i j ≤ j ∧ (bs q f i j = i ∨ q (bs q f i j - 1) = true) ∧ (bs q f i j = j ∨ q (bs q f i j) = false)
  | 0, i, j, h1, h2 => by
    have e : i = j := by omega
    subst e
    exact ⟨Nat.le_refl _, Nat.le_refl _, .inl rfl, .inl rfl⟩
  | f + 1, i, j, h1, h2 => by
    unfold bs
    by_cases c : i < j
    · rw [if_pos c]
      by_cases hq : q ((i + j) / 2) = true
      · rw [if_pos hq]
        obtain ⟨g1, g2, g3, g4⟩ := bs_spec q f ((i + j) / 2 + 1) j (by omega) (by omega)
        refine ⟨by omega, g2, ?_, g4⟩
        rcases g3 with g3 | g3
        · right; rw [g3]; simpa using hq
        · exact .inr g3
      · rw [if_neg hq]
        obtain ⟨g1, g2, g3, g4⟩ := bs_spec q f i ((i + j) / 2) (by omega) (by omega)
        refine ⟨g1, by omega, g3, ?_⟩
        rcases g4 with g4 | g4
        · right; rw [g4]; simpa using hq
        · exact .inr g4
    · rw [if_neg c]
      exact ⟨Nat.le_refl _, h1, .inl rfl, .inl (by omega)⟩

theorem bubUp_perm (lo hi : Nat) : ∀ (r k : Nat) (d : Array α), lo ≤ k → k + r < hi → hi ≤ d.size → PermIn lo hi d (bubUp r k d)
  | 0, _, d, _, _, _ => permIn_refl d lo hi
  | r + 1, k, d, h1, h2, h3 => by
    rw [bubUp]
    exact permIn_trans _ _ _ _ _ (swp_permIn d lo hi k (k + 1) h1 (by omega) (by omega) (by omega) h3) (bubUp_perm lo hi r (k + 1) _ (by omega) (by omega) (by rw [swp_size]; exact h3))
theorem bubDown_perm (lo hi : Nat) : ∀ (r k : Nat) (d : Array α), lo + r ≤ k → k < hi → hi ≤ d.size → PermIn lo hi d (bubDown r k d)
  | 0, _, d, _, _, _ => permIn_refl d lo hi
  | r + 1, k, d, h1, h2, h3 => by
    rw [bubDown]
    exact permIn_trans _ _ _ _ _ (swp_permIn d lo hi k (k - 1) (by omega) h2 (by omega) (by omega) h3) (bubDown_perm lo hi r (k - 1) _ (by omega) (by omega) (by rw [swp_size]; exact h3))
/-- The element at k goes r places up, those between one down. -/
theorem bubUp_get : ∀ (r k : Nat) (d : Array α), k + r < d.size → ∀ x,
    (bubUp r k d)[x]! = if x = k + r then d[k]! else if k ≤ x ∧ x < k + r then d[x + 1]! else d[x]!
  | 0, k, d, h, x => by
    rw [bubUp]
    by_cases e : x = k
    · rw [if_pos (by omega), e]
    · rw [if_neg (by omega), if_neg (by omega)]
  | r + 1, k, d, h, x => by
    rw [bubUp, bubUp_get r (k + 1) _ (by rw [swp_size]; omega) x]
    have g := fun y => swp_get d (i := k) (j := k + 1) (by omega) (by omega) y
    by_cases c1 : x = k + (r + 1)
    · rw [if_pos (by omega), if_pos c1, g, if_pos rfl]
    · rw [if_neg (by omega), if_neg c1]
      by_cases c2 : k ≤ x ∧ x < k + (r + 1)
      · rw [if_pos c2]
        by_cases c3 : x = k
        · rw [if_neg (by omega), g, if_neg (by omega), if_pos c3, c3]
        · rw [if_pos (by omega), g, if_neg (by omega), if_neg (by omega)]
      · rw [if_neg c2, if_neg (by omega), g, if_neg (by omega), if_neg (by omega)]
theorem bubDown_get : ∀ (r k : Nat) (d : Array α), r ≤ k → k < d.size → ∀ x,
    (bubDown r k d)[x]! = if x = k - r then d[k]! else if k - r ≤ x ∧ x ≤ k then d[x - 1]! else d[x]!
  | 0, k, d, h1, h2, x => by
    rw [bubDown]
    by_cases e : x = k
    · rw [if_pos (by omega), e]
    · rw [if_neg (by omega), if_neg (by omega)]
  | r + 1, k, d, h1, h2, x => by
    rw [bubDown, bubDown_get r (k - 1) _ (by omega) (by rw [swp_size]; omega) x]
    have g := fun y => swp_get d (i := k) (j := k - 1) (by omega) (by omega) y
    by_cases c1 : x = k - (r + 1)
    · rw [if_pos (by omega), if_pos c1, g, if_pos rfl]
    · rw [if_neg (by omega), if_neg c1]
      by_cases c2 : k - (r + 1) ≤ x ∧ x ≤ k
      · rw [if_pos c2]
        by_cases c3 : x = k
        · rw [if_neg (by omega), g, if_neg (by omega), if_pos c3, c3]
        · rw [if_pos (by omega), g, if_neg (by omega), if_neg (by omega)]
      · rw [if_neg c2, if_neg (by omega), g, if_neg (by omega), if_neg (by omega)]

theorem sortedIn_congr {lt : α → α → Bool} {a b : Nat} {d d' : Array α} (hs : SortedIn lt a b d) (h : ∀ i, a ≤ i → i < b → d'[i]! = d[i]!) : SortedIn lt a b d' := fun i j hi hij hj => by
  rw [h i hi (by omega), h j (by omega) hj]; exact hs i j hi hij hj
theorem sortedIn_sub {lt : α → α → Bool} {a b a' b' : Nat} {d : Array α} (hs : SortedIn lt a b d) (h1 : a ≤ a') (h2 : b' ≤ b) : SortedIn lt a' b' d := fun i j hi hij hj => hs i j (by omega) hij (by omega)
/-- Two sorted parts, none of the right one less than one of the left one. -/
theorem sorted_two {lt : α → α → Bool} {a m b : Nat} {d : Array α} (h1 : SortedIn lt a m d) (h2 : SortedIn lt m b d) (h3 : ∀ i j, a ≤ i → i < m → m ≤ j → j < b → lt d[j]! d[i]! = false) : SortedIn lt a b d := fun i j hi hij hj => by
  by_cases c1 : j < m
  · exact h1 i j hi hij c1
  · by_cases c2 : i < m
    · exact h3 i j hi c2 (by omega) hj
    · exact h2 i j (by omega) hij hj
/-- What is said of all pairs across is said behind permutations of both sides. -/
theorem across_perm {p : α → α → Prop} {a m b : Nat} {d d' : Array α} (hb : b ≤ d.size) (ham : a ≤ m) (hmb : m ≤ b) (h : ∀ i j, a ≤ i → i < m → m ≤ j → j < b → p d[i]! d[j]!)
    (hL : PermIn a m d d') : ∀ i j, a ≤ i → i < m → m ≤ j → j < b → p d'[i]! d'[j]! := fun i j hi him hmj hj => by
  rw [hL.2.1 j (.inr hmj)]
  exact permIn_all d d' a m (fun x => p x d[j]!) (by omega) hL (fun i' h1 h2 => h i' j h1 h2 hmj hj) i hi him
theorem across_permR {p : α → α → Prop} {a m b : Nat} {d d' : Array α} (hb : b ≤ d.size) (ham : a ≤ m) (hmb : m ≤ b) (h : ∀ i j, a ≤ i → i < m → m ≤ j → j < b → p d[i]! d[j]!)
    (hR : PermIn m b d d') : ∀ i j, a ≤ i → i < m → m ≤ j → j < b → p d'[i]! d'[j]! := fun i j hi him hmj hj => by
  rw [hR.2.1 i (.inl him)]
  exact permIn_all d d' m b (fun x => p d[i]! x) hb hR (fun j' h1 h2 => h i j' hi him h1 h2) j hmj hj
end Go.Proofs.SymP
/- Plain law: symMerge of two sorted parts is a sorted permutation of both, under a strict weak order, with rounds enough. -/
set_option linter.unusedVariables false
namespace Go.Proofs.SymP
open Go.Sort
variable {α : Type} [Inhabited α]

theorem up_sorted {lt : α → α → Bool} (H : SWO lt) (d : Array α) (a b i : Nat) (hb : b ≤ d.size) (hi1 : a + 1 ≤ i) (hi2 : i ≤ b) (hs : SortedIn lt (a + 1) b d)
    (h1 : i = a + 1 ∨ lt d[i - 1]! d[a]! = true) (h2 : i = b ∨ lt d[i]! d[a]! = false) : SortedIn lt a b (bubUp (i - 1 - a) a d) := by
  have g := fun x => bubUp_get (i - 1 - a) a d (by omega) x
  have e : a + (i - 1 - a) = i - 1 := by omega
  rw [e] at g
  intro x y hx hxy hy
  rw [g x, g y]
  by_cases c1 : y < i - 1
  · rw [if_neg (by omega), if_pos (by omega), if_neg (by omega), if_pos (by omega)]
    exact hs _ _ (by omega) (by omega) (by omega)
  · by_cases c2 : y = i - 1
    · rw [if_pos c2, if_neg (by omega), if_pos (by omega)]
      rcases h1 with h1 | h1
      · omega
      · cases hc : lt d[a]! d[x + 1]! with
        | false => rfl
        | true =>
          have ht := H.trans _ _ _ h1 hc
          by_cases c3 : x + 1 = i - 1
          · rw [c3, H.irrefl] at ht; cases ht
          · rw [hs (x + 1) (i - 1) (by omega) (by omega) (by omega)] at ht; cases ht
    · rw [if_neg c2, if_neg (by omega)]
      by_cases c3 : x = i - 1
      · rw [if_pos c3]
        rcases h2 with h2 | h2
        · omega
        · by_cases c4 : y = i
          · rw [c4]; exact h2
          · exact H.ntrans _ _ _ (hs i y (by omega) (by omega) hy) h2
      · rw [if_neg c3]
        by_cases c4 : x < i - 1
        · rw [if_pos (by omega)]
          exact hs _ _ (by omega) (by omega) hy
        · rw [if_neg (by omega)]
          exact hs _ _ (by omega) hxy hy

theorem down_sorted {lt : α → α → Bool} (H : SWO lt) (d : Array α) (a m i : Nat) (hb : m < d.size) (hi1 : a ≤ i) (hi2 : i ≤ m) (hs : SortedIn lt a m d)
    (h1 : i = a ∨ lt d[m]! d[i - 1]! = false) (h2 : i = m ∨ lt d[m]! d[i]! = true) : SortedIn lt a (m + 1) (bubDown (m - i) m d) := by
  have g := fun x => bubDown_get (m - i) m d (by omega) hb x
  have e : m - (m - i) = i := by omega
  rw [e] at g
  intro x y hx hxy hy
  rw [g x, g y]
  by_cases c1 : y < i
  · rw [if_neg (by omega), if_neg (by omega), if_neg (by omega), if_neg (by omega)]
    exact hs _ _ hx hxy (by omega)
  · by_cases c2 : y = i
    · rw [if_pos c2, if_neg (by omega), if_neg (by omega)]
      rcases h1 with h1 | h1
      · omega
      · by_cases c3 : x = i - 1
        · rw [c3]; exact h1
        · exact H.ntrans _ _ _ h1 (hs x (i - 1) hx (by omega) (by omega))
    · rw [if_neg c2, if_pos (by omega)]
      by_cases c3 : x = i
      · rw [if_pos c3]
        rcases h2 with h2 | h2
        · omega
        · cases hc : lt d[y - 1]! d[m]! with
          | false => rfl
          | true =>
            have ht := H.trans _ _ _ hc h2
            by_cases c4 : y - 1 = i
            · rw [c4, H.irrefl] at ht; cases ht
            · rw [hs i (y - 1) (by omega) (by omega) (by omega)] at ht; cases ht
      · rw [if_neg c3]
        by_cases c4 : x < i
        · rw [if_neg (by omega)]
          exact hs _ _ hx (by omega) (by omega)
        · rw [if_pos (by omega)]
          exact hs _ _ (by omega) (by omega) (by omega)

theorem le_of_sorted {lt : α → α → Bool} (H : SWO lt) {a b : Nat} {d : Array α} (hs : SortedIn lt a b d) {i j : Nat} (h1 : a ≤ i) (h2 : i ≤ j) (h3 : j < b) : lt d[j]! d[i]! = false := by
  by_cases c : i = j
  · rw [c]; exact H.irrefl _
  · exact hs i j h1 (by omega) h3

theorem symMerge_ok {lt : α → α → Bool} (H : SWO lt) : ∀ (f : Nat) (d : Array α) (a m b : Nat), b - a ≤ f → a < m → m < b → b ≤ d.size → SortedIn lt a m d → SortedIn lt m b d →
    PermIn a b d (symMerge lt f d a m b) ∧ SortedIn lt a b (symMerge lt f d a m b)
  | 0, d, a, m, b, hf, h1, h2, _, _, _ => by omega
  | f + 1, d, a, m, b, hf, h1, h2, hb, hs1, hs2 => by
    unfold symMerge
    by_cases c1 : m - a = 1
    · rw [if_pos c1]
      obtain rfl : m = a + 1 := by omega
      obtain ⟨g1, g2, g3, g4⟩ := bs_spec (fun h => lt d[h]! d[a]!) (b - (a + 1)) (a + 1) b (by omega) (by omega)
      exact ⟨bubUp_perm a b _ a d (Nat.le_refl _) (by omega) hb, up_sorted H d a b _ hb g1 g2 hs2 g3 g4⟩
    · rw [if_neg c1]
      by_cases c2 : b - m = 1
      · rw [if_pos c2]
        obtain rfl : b = m + 1 := by omega
        obtain ⟨g1, g2, g3, g4⟩ := bs_spec (fun h => !lt d[m]! d[h]!) (m - a) a m (by omega) (by omega)
        refine ⟨bubDown_perm a (m + 1) _ m d (by omega) (by omega) hb, down_sorted H d a m _ (by omega) g1 g2 hs1 ?_ ?_⟩
        · rcases g3 with g3 | g3
          · exact .inl g3
          · right; simpa using g3
        · rcases g4 with g4 | g4
          · exact .inl g4
          · right; simpa using g4
      · rw [if_neg c2]
        dsimp only
        generalize hmid : (a + b) / 2 = mid
        generalize hs0 : (if mid < m then mid + m - b else a) = s0
        generalize hr0 : (if mid < m then mid else m) = r0
        have hb0 : a ≤ s0 ∧ s0 ≤ r0 ∧ r0 ≤ mid ∧ r0 ≤ m := by
          rw [← hs0, ← hr0]
          split <;> omega
        obtain ⟨g1, g2, g3, g4⟩ := bs_spec (fun c => !lt d[mid + m - 1 - c]! d[c]!) (r0 - s0) s0 r0 (by omega) (by omega)
        generalize bs (fun c => !lt d[mid + m - 1 - c]! d[c]!) (r0 - s0) s0 r0 = st at g1 g2 g3 g4 ⊢
        have he1 : m ≤ mid + m - st := by omega
        have he2 : mid + m - st ≤ b := by
          by_cases c : mid < m
          · rw [if_pos c] at hs0; omega
          · rw [if_neg c] at hs0; omega
        have hA : st = a ∨ mid + m - st = b ∨ lt d[mid + m - st]! d[st - 1]! = false := by
          have hfirst : st = s0 → st = a ∨ mid + m - st = b ∨ lt d[mid + m - st]! d[st - 1]! = false := by
            intro g3
            by_cases c : mid < m
            · rw [if_pos c] at hs0; right; left; omega
            · rw [if_neg c] at hs0; left; omega
          rcases g3 with g3 | g3
          · exact hfirst g3
          · by_cases c : st = 0
            · exact hfirst (by omega)
            · right; right
              have e : mid + m - 1 - (st - 1) = mid + m - st := by omega
              simp only [e] at g3
              simpa using g3
        have hB : st = m ∨ mid + m - st = m ∨ lt d[mid + m - st - 1]! d[st]! = true := by
          rcases g4 with g4 | g4
          · by_cases c : mid < m
            · rw [if_pos c] at hr0; right; left; omega
            · rw [if_neg c] at hr0; left; omega
          · right; right
            have e : mid + m - 1 - st = mid + m - st - 1 := by omega
            simp only [e] at g4
            simpa using g4
        generalize he : mid + m - st = e at he1 he2 hA hB ⊢
        -- the rotated array, place by place
        have hd1 : ∃ d1, (if st < m ∧ m < e then rotate d st m e else d) = d1 ∧ PermIn a b d d1 ∧ ∀ x, d1[x]! = if st ≤ x ∧ x < mid then d[x + (m - st)]! else if mid ≤ x ∧ x < e then d[x - (e - m)]! else d[x]! := by
          refine ⟨_, rfl, ?_, ?_⟩
          · split
            · exact rotate_perm d a b st m e (by omega) (by omega) (by omega) he2 hb
            · exact permIn_refl d a b
          · intro x
            split
            · rename_i c
              rw [rotate_get d st m e c.1 c.2 (by omega) x]
              have e1 : st + (e - m) = mid := by omega
              rw [e1]
            · rename_i c
              by_cases c3 : st ≤ x ∧ x < mid
              · rw [if_pos c3]
                have : m - st = 0 := by omega
                rw [this]; rfl
              · rw [if_neg c3]
                by_cases c4 : mid ≤ x ∧ x < e
                · rw [if_pos c4]
                  have : e - m = 0 := by omega
                  rw [this]; rfl
                · rw [if_neg c4]
        obtain ⟨d1, ed1, hp1, hg⟩ := hd1
        rw [ed1]
        clear ed1
        have hsz1 : d1.size = d.size := hp1.1
        have L1 : SortedIn lt a st d1 := sortedIn_congr (sortedIn_sub hs1 (Nat.le_refl _) (by omega)) (fun i hi1 hi2 => by rw [hg, if_neg (by omega), if_neg (by omega)])
        have L2 : SortedIn lt st mid d1 := fun x y hx hxy hy => by
          rw [hg x, hg y, if_pos (by omega), if_pos (by omega)]
          exact hs2 _ _ (by omega) (by omega) (by omega)
        have R1 : SortedIn lt mid e d1 := fun x y hx hxy hy => by
          rw [hg x, hg y, if_neg (by omega), if_pos (by omega), if_neg (by omega), if_pos (by omega)]
          exact hs1 _ _ (by omega) (by omega) (by omega)
        have R2 : SortedIn lt e b d1 := sortedIn_congr (sortedIn_sub hs2 (by omega) (Nat.le_refl _)) (fun i hi1 hi2 => by rw [hg, if_neg (by omega), if_neg (by omega)])
        have AC : ∀ i j, a ≤ i → i < mid → mid ≤ j → j < b → lt d1[j]! d1[i]! = false := by
          intro i j hi him hmj hj
          rw [hg i, hg j, if_neg (by omega : ¬ (st ≤ j ∧ j < mid))]
          by_cases ci : st ≤ i
          · rw [if_pos (⟨ci, him⟩ : st ≤ i ∧ i < mid)]
            by_cases cj : j < e
            · rw [if_pos (⟨hmj, cj⟩ : mid ≤ j ∧ j < e)]
              -- B, C
              rcases hB with hB | hB | hB
              · omega
              · omega
              · cases hc : lt d[j - (e - m)]! d[i + (m - st)]! with
                | false => rfl
                | true =>
                  have k1 : lt d[j - (e - m)]! d[st]! = false := le_of_sorted H hs1 (by omega) (by omega) (by omega)
                  have k2 : lt d[e - 1]! d[i + (m - st)]! = false := le_of_sorted H hs2 (by omega) (by omega) (by omega)
                  cases hk : lt d[e - 1]! d[j - (e - m)]! with
                  | false =>
                    have := H.ntrans _ _ _ hk k1
                    rw [hB] at this; cases this
                  | true =>
                    have := H.trans _ _ _ hk hc
                    rw [k2] at this; cases this
            · rw [if_neg (by omega : ¬ (mid ≤ j ∧ j < e))]
              exact le_of_sorted H hs2 (by omega) (by omega) hj
          · rw [if_neg (by omega : ¬ (st ≤ i ∧ i < mid)), if_neg (by omega : ¬ (mid ≤ i ∧ i < e))]
            by_cases cj : j < e
            · rw [if_pos (⟨hmj, cj⟩ : mid ≤ j ∧ j < e)]
              exact le_of_sorted H hs1 hi (by omega) (by omega)
            · rw [if_neg (by omega : ¬ (mid ≤ j ∧ j < e))]
              rcases hA with hA | hA | hA
              · omega
              · omega
              · exact H.ntrans _ _ _ (le_of_sorted H hs2 (by omega) (by omega) hj) (H.ntrans _ _ _ hA (le_of_sorted H hs1 hi (by omega) (by omega)))
        -- the left part
        have hd2 : ∃ d2, (if a < st ∧ st < mid then symMerge lt f d1 a st mid else d1) = d2 ∧ PermIn a mid d1 d2 ∧ SortedIn lt a mid d2 := by
          refine ⟨_, rfl, ?_⟩
          split
          · rename_i c
            exact symMerge_ok H f d1 a st mid (by omega) c.1 c.2 (by omega) L1 L2
          · rename_i c
            refine ⟨permIn_refl d1 a mid, ?_⟩
            by_cases c3 : st = a
            · rw [c3] at L2; exact L2
            · have : st = mid := by omega
              rw [this] at L1; exact L1
        obtain ⟨d2, ed2, hp2, hs2'⟩ := hd2
        rw [ed2]
        clear ed2
        have hsz2 : d2.size = d.size := hp2.1.trans hsz1
        have out2 : ∀ i, mid ≤ i → d2[i]! = d1[i]! := fun i hi => hp2.2.1 i (.inr hi)
        have hd3 : ∃ d3, (if mid < e ∧ e < b then symMerge lt f d2 mid e b else d2) = d3 ∧ PermIn mid b d2 d3 ∧ SortedIn lt mid b d3 := by
          have R1' : SortedIn lt mid e d2 := sortedIn_congr R1 (fun i h1 _ => out2 i h1)
          have R2' : SortedIn lt e b d2 := sortedIn_congr R2 (fun i h1 _ => out2 i (by omega))
          refine ⟨_, rfl, ?_⟩
          split
          · rename_i c
            exact symMerge_ok H f d2 mid e b (by omega) c.1 c.2 (by omega) R1' R2'
          · rename_i c
            refine ⟨permIn_refl d2 mid b, ?_⟩
            by_cases c3 : e = mid
            · rw [c3] at R2'; exact R2'
            · have : e = b := by omega
              rw [this] at R1'; exact R1'
        obtain ⟨d3, ed3, hp3, hs3⟩ := hd3
        rw [ed3]
        refine ⟨permIn_trans _ _ _ _ _ hp1 (permIn_trans _ _ _ _ _ (permIn_mono d1 d2 a mid a b (Nat.le_refl _) (by omega) (by omega) hp2) (permIn_mono d2 d3 mid b a b (by omega) (Nat.le_refl _) (by omega) hp3)), ?_⟩
        refine sorted_two (m := mid) (sortedIn_congr hs2' (fun i _ h2 => hp3.2.1 i (.inl h2))) hs3 ?_
        have A1 := across_perm (p := fun x y => lt y x = false) (d := d1) (d' := d2) (by omega) (by omega) (by omega) AC hp2
        exact across_permR (p := fun x y => lt y x = false) (d := d2) (d' := d3) (by omega) (by omega) (by omega) A1 hp3
#print axioms symMerge_ok
end Go.Proofs.SymP
/- The walk of slices.SortStableFunc's family at []api.Fact: swapRangeCmpFunc and rotateCmpFunc; what is asked: the comparing function's contract (it may lay blocks), how the row lies. -/
set_option linter.unusedVariables false
set_option linter.unusedSimpArgs false
namespace Go.Proofs.Ytghommaokdhjmaa.SortF
open Go.Shelf Go.RowKit Go.Lib Go.Sort Go.Proofs.SymP
variable {P : Program} {α : Type} [Inhabited α]
/-- What the walks ask of the program: the types' rows, the bodies. -/
structure Lays (P : Program) : Prop where
  mixed : P.follows .mixedOrders = true
  t0 : P.underlying 0 = some (TypeDesc.tuple #[])
  a0 : ∀ w, (isAgg 0).run P w = .ok false w
  z0 : ∀ w, (Go.sizeOf 0).run P w = .ok 1 w
  v0 : ∀ w, (zeroValue 0).run P w = .ok (Value.tuple #[]) w
  tI : P.underlying 3 = some (TypeDesc.int IntKind.i64)
  aI : ∀ w, (isAgg 3).run P w = .ok false w
  zI : ∀ w, (Go.sizeOf 3).run P w = .ok 1 w
  vI : ∀ w, (zeroValue 3).run P w = .ok (Value.int IntKind.i64 0) w
  tB : P.underlying 4 = some (TypeDesc.bool)
  aB : ∀ w, (isAgg 4).run P w = .ok false w
  zB : ∀ w, (Go.sizeOf 4).run P w = .ok 1 w
  vB : ∀ w, (zeroValue 4).run P w = .ok (Value.bool false) w
  tS : P.underlying 46 = some (TypeDesc.slice 53)
  aS : ∀ w, (isAgg 46).run P w = .ok false w
  zS : ∀ w, (Go.sizeOf 46).run P w = .ok 1 w
  vS : ∀ w, (zeroValue 46).run P w = .ok (Value.slice none 0 0) w
  tF : P.underlying 66 = some (TypeDesc.func #[53, 53] #[3] false)
  aF : ∀ w, (isAgg 66).run P w = .ok false w
  zF : ∀ w, (Go.sizeOf 66).run P w = .ok 1 w
  vF : ∀ w, (zeroValue 66).run P w = .ok (Value.nilFunc) w
  tU : P.underlying 44 = some (TypeDesc.int IntKind.u64)
  aU : ∀ w, (isAgg 44).run P w = .ok false w
  zU : ∀ w, (Go.sizeOf 44).run P w = .ok 1 w
  vU : ∀ w, (zeroValue 44).run P w = .ok (Value.int IntKind.u64 0) w
  Fsr : P.funcs[127]? = some Try.f127
  Fro : P.funcs[126]? = some Try.f126
  Fsm : P.funcs[124]? = some Try.f124
  Fst : P.funcs[114]? = some Try.f114
  Fss : P.funcs[95]? = some Try.f95
theorem lays : Lays Try.prog := by
  constructor <;> first | kernel_rfl | (intro w; kernel_rfl)

set_option maxHeartbeats 4000000 in
set_option maxRecDepth 1000000 in
theorem swapRangeCmpFunc (L : Lays P) (k : Nat) (aE : ∀ w, (isAgg 53).run P w = .ok true w) (zE : ∀ w, (Go.sizeOf 53).run P w = .ok k w) (enc : α → List Value) (g : Nat) (cb : Array Value) (blk off sz cap a b n : Nat) (az bz nz : Int) (haz : az = a) (hbz : bz = b) (hnz : nz = n) (d0 d : Array α) (w0 w : World)
    (R : RowK enc k w0 blk off d0) (hs : d0.size = sz) (hd : d.size = sz) (S : SWK enc k w0 blk off d w) (h1 : a + n ≤ sz) (h2 : b + n ≤ sz) (hsz : sz < 4611686018427387904) :
    Calls P 127 #[.slice (some ⟨blk, off, none⟩) sz cap, .int .i64 az, .int .i64 bz, .int .i64 nz, .func (.func g) #[] cb] w fun e w' => e = .returned (.tuple #[]) ∧ SWK enc k w0 blk off (swapRange d a b n) w' := by
  subst haz hbz hnz
  have mixed := L.mixed; have t0 := L.t0; have a0 := L.a0; have z0 := L.z0; have v0 := L.v0; have tI := L.tI; have aI := L.aI; have zI := L.zI; have vI := L.vI; have tB := L.tB; have aB := L.aB; have zB := L.zB; have vB := L.vB; have tS := L.tS; have aS := L.aS; have zS := L.zS; have vS := L.vS; have tF := L.tF; have aF := L.aF; have zF := L.zF; have vF := L.vF; have tU := L.tU; have aU := L.aU; have zU := L.zU; have vU := L.vU
  have FG := L.Fsr
  have S0 : Aside (SWK enc k w0 blk off d w) := S
  clear S
  go_enter FG, Try.ntmps127
  go_wp2
  go_loopg [10] n (fun kx s10 wr => ∃ (i r : Nat) (dk : Array α), s10 = .int .i64 i ∧ i + r = n ∧ r ≤ kx ∧ dk.size = sz ∧ Aside (SWK enc k w0 blk off dk wr) ∧ Hid (swapFrom a b i r dk = swapFrom a b 0 n d))
  case atStart => exact ⟨0, n, d, rfl, by omega, Nat.le_refl _, hd, S0, rfl⟩
  case round =>
    clear S0
    obtain ⟨i, r, dk, rfl, hir, hkx, hds, S1, HE⟩ := hrel
    cases r with
    | succ r =>
      have hlt : (i : Int) < (n : Int) := by omega
      go_wp2_with fail
      have ea1 : ((a : Int) + (i : Int)).toNat = a + i := by omega
      have pa1 : (0 : Int) ≤ (a : Int) + (i : Int) := by omega
      have ba1 : (a : Int) + (i : Int) < (sz : Int) := by omega
      have ra1 : IntKind.i64.wrap ((a : Int) + (i : Int)) = (a : Int) + (i : Int) := by rw [IntKind.wrap_i64]; omega
      have ec1 : ((b : Int) + (i : Int)).toNat = b + i := by omega
      have pc1 : (0 : Int) ≤ (b : Int) + (i : Int) := by omega
      have bc1 : (b : Int) + (i : Int) < (sz : Int) := by omega
      have rc1 : IntKind.i64.wrap ((b : Int) + (i : Int)) = (b : Int) + (i : Int) := by rw [IntKind.wrap_i64]; omega
      have S2 : Aside (SWK enc k w0 blk off (swp dk (a + i) (b + i)) ((wr.drew.setCells blk (off + (a + i) * k) (enc dk[b + i]!)).setCells blk (off + (b + i) * k) (enc dk[a + i]!))) := S1.out.swapped R (a + i) (b + i) (by omega) (by omega)
      have l1a := S1.out.ld1 R (by omega) P (a + i) (by omega)
      have l1b := S1.out.ld1 R (by omega) P (b + i) (by omega)
      have s1a := S1.out.st1 R (by omega) P (a + i) (by omega) dk[b + i]!
      have s1b := S1.out.st2 R (by omega) P (a + i) (b + i) (by omega) (by omega) dk[b + i]! dk[a + i]!
      have n1a : (enc dk[a + i]!).length = k := R.hk _
      have n1b : (enc dk[b + i]!).length = k := R.hk _
      generalize enc dk[a + i]! = cI1 at S2 l1a s1b n1a
      generalize enc dk[b + i]! = cJ1 at S2 l1b s1a s1b n1b
      clear S1
      go_wp2_with fail
      go_big_region_o
      clear l1a l1b s1a s1b
      generalize (wr.drew.setCells blk (off + (a + i) * k) cJ1).setCells blk (off + (b + i) * k) cI1 = w2 at S2 ⊢
      go_wp2
      go_roundg r
      case measure => omega
      case rel => exact ⟨i + 1, r, swp dk (a + i) (b + i), by go_num, by omega, Nat.le_refl _, by rw [size_swp]; exact hds, S2, HE.out⟩
    | zero =>
      have hlt : ¬ (i : Int) < (n : Int) := by omega
      have hE := HE.out
      rw [swapFrom] at hE
      have HE2 : Aside _ := hE
      clear HE hE
      go_wp2
      go_end0
      refine ⟨rfl, ?_⟩
      show SWK enc k w0 blk off (swapFrom a b 0 n d) wr
      rw [← HE2.out]
      exact S1.out

set_option maxHeartbeats 4000000 in
set_option maxRecDepth 1000000 in
theorem rotateCmpFunc (L : Lays P) (k : Nat) (aE : ∀ w, (isAgg 53).run P w = .ok true w) (zE : ∀ w, (Go.sizeOf 53).run P w = .ok k w) (enc : α → List Value) (g : Nat) (cb : Array Value) (blk off sz cap a m b : Nat) (az mz bz : Int) (haz : az = a) (hmz : mz = m) (hbz : bz = b) (d0 d : Array α) (w0 w : World)
    (R : RowK enc k w0 blk off d0) (hs : d0.size = sz) (hd : d.size = sz) (S : SWK enc k w0 blk off d w) (h1 : a < m) (h2 : m < b) (h3 : b ≤ sz) (hsz : sz < 4611686018427387904) :
    Calls P 126 #[.slice (some ⟨blk, off, none⟩) sz cap, .int .i64 az, .int .i64 mz, .int .i64 bz, .func (.func g) #[] cb] w fun e w' => e = .returned (.tuple #[]) ∧ SWK enc k w0 blk off (rotate d a m b) w' := by
  subst haz hmz hbz
  have mixed := L.mixed; have t0 := L.t0; have a0 := L.a0; have z0 := L.z0; have v0 := L.v0; have tI := L.tI; have aI := L.aI; have zI := L.zI; have vI := L.vI; have tB := L.tB; have aB := L.aB; have zB := L.zB; have vB := L.vB; have tS := L.tS; have aS := L.aS; have zS := L.zS; have vS := L.vS; have tF := L.tF; have aF := L.aF; have zF := L.zF; have vF := L.vF; have tU := L.tU; have aU := L.aU; have zU := L.zU; have vU := L.vU
  have FG := L.Fro
  have e1 : ∀ args w, (callFunc 127 args).run P w = .ok (.enter 127 args) w := enters_of L.Fsr (by kernel_rfl) rfl
  have S0 : Aside (SWK enc k w0 blk off d w) := S
  clear S
  go_enter FG, Try.ntmps126
  go_wp2
  go_loopg [10, 11] (b - a) (fun kx s10 s11 wr => ∃ (i j f : Nat) (dk : Array α), s10 = .int .i64 i ∧ s11 = .int .i64 j ∧ 1 ≤ i ∧ 1 ≤ j ∧ i ≤ m ∧ m + j ≤ sz ∧ i + j ≤ f + 1 ∧ f ≤ kx ∧ dk.size = sz ∧ Aside (SWK enc k w0 blk off dk wr) ∧ Hid (rotLoop m (f + 1) i j dk = rotLoop m (b - a) (m - a) (b - m) d))
  case atStart => exact ⟨m - a, b - m, b - a - 1, d, by congr 1; omega, by congr 1; omega, by omega, by omega, by omega, by omega, by omega, by omega, hd, S0, by show _ = _; congr 1; omega⟩
  case round =>
    clear S0
    obtain ⟨i, j, f, dk, rfl, rfl, hi1, hj1, him, hmj, hf, hkx, hds, S1, HE⟩ := hrel
    by_cases hij : i = j
    · subst hij
      have hE := HE.out
      rw [rotLoop_succ, if_pos rfl] at hE
      have HE2 : Aside _ := hE
      clear HE hE
      go_wp2_with fail
      go_wp2_with (go_at_fn 127; refine (swapRangeCmpFunc L k aE zE enc g cb blk off sz cap (m - i) (m) (i) _ _ _ (by omega) (by omega) (by omega) d0 dk w0 _ R (by omega) (by omega) S1.out (by omega) (by omega) (by omega)).mono ?_; rintro e w2 ⟨rfl, hS2⟩; have S2 : Aside _ := hS2; clear hS2 S1)
      go_end0
      refine ⟨rfl, ?_⟩
      show SWK enc k w0 blk off (rotLoop m (b - a) (m - a) (b - m) d) _
      rw [← HE2.out]
      exact S2.out
    · have hne : ¬ (i : Int) = (j : Int) := by omega
      have hne' : ((i : Int) != (j : Int)) = true := by simpa using hne
      by_cases hlt : j < i
      · have hltz : (j : Int) < (i : Int) := by omega
        have hE := HE.out
        rw [rotLoop_succ, if_neg hij, if_pos hlt] at hE
        obtain ⟨f, rfl⟩ : ∃ q, f = q + 1 := ⟨f - 1, by omega⟩
        have HE2 : Aside _ := hE
        clear HE hE
        go_wp2_with (go_at_fn 127; refine (swapRangeCmpFunc L k aE zE enc g cb blk off sz cap (m - i) (m) (j) _ _ _ (by omega) (by omega) (by omega) d0 dk w0 _ R (by omega) (by omega) S1.out (by omega) (by omega) (by omega)).mono ?_; rintro e w2 ⟨rfl, hS2⟩; have S2 : Aside _ := hS2; clear hS2 S1)
        go_roundg f
        case measure => omega
        case rel => exact ⟨i - j, j, f, swapRange dk (m - i) m j, by congr 1; omega, rfl, by omega, hj1, by omega, hmj, by omega, Nat.le_refl _, by rw [size_swapRange]; exact hds, S2, HE2.out⟩
      · have hltz : ¬ (j : Int) < (i : Int) := by omega
        have hE := HE.out
        rw [rotLoop_succ, if_neg hij, if_neg hlt] at hE
        obtain ⟨f, rfl⟩ : ∃ q, f = q + 1 := ⟨f - 1, by omega⟩
        have HE2 : Aside _ := hE
        clear HE hE
        go_wp2_with (go_at_fn 127; refine (swapRangeCmpFunc L k aE zE enc g cb blk off sz cap (m - i) (m + j - i) (i) _ _ _ (by omega) (by omega) (by omega) d0 dk w0 _ R (by omega) (by omega) S1.out (by omega) (by omega) (by omega)).mono ?_; rintro e w2 ⟨rfl, hS2⟩; have S2 : Aside _ := hS2; clear hS2 S1)
        go_roundg f
        case measure => omega
        case rel => exact ⟨i, j - i, f, swapRange dk (m - i) (m + j - i) i, rfl, by congr 1; omega, hi1, by omega, him, by omega, by omega, Nat.le_refl _, by rw [size_swapRange]; exact hds, S2, HE2.out⟩
end Go.Proofs.Ytghommaokdhjmaa.SortF
/- Rows of elements of k cells: one element put, a run of them put, a tail cleared; from a block's cells to the row's words and back. -/
set_option linter.unusedVariables false
set_option linter.unusedSimpArgs false
namespace Go.Proofs.SymP
open Go.Shelf Go.RowKit Go.Lib Go.Sort
variable {P : Program} {α : Type} [Inhabited α] {enc : α → List Value} {k : Nat} {w0 W : World} {blk off : Nat} {dk : Array α}

theorem setMany_set (enc : α → List Value) (k : Nat) (hk : ∀ x, (enc x).length = k) (d : Array α) (i : Nat) (hi : i < d.size) (y : α) :
    setMany (flatK enc k d) (i * k) (enc y) = flatK enc k (d.setIfInBounds i y) := by
  refine ext_get! (by simp) fun t ht => ?_
  have ht' : t < d.size * k := by simpa using ht
  have k0 : 0 < k := by
    rcases Nat.eq_zero_or_pos k with h | h
    · subst h; simp at ht'
    · exact h
  rw [get_setMany _ _ _ t (by simpa using ht'), get_flatK _ _ _ t ht', get_flatK _ _ _ t (by simpa using ht'), hk]
  have m : ∀ q, t / k = q → t - q * k = t % k := fun q h => by subst h; rw [Nat.mod_eq_sub_div_mul]
  by_cases a : t / k = i
  · rw [if_pos ((blk_iff k i t k0).2 a), m i a, a, getElem!_set_same d i y hi]
  · rw [if_neg (fun h => a ((blk_iff k i t k0).1 h)), getElem!_set_other d i _ y a]

theorem swk_set (h : SWK enc k w0 blk off dk W) (hk : ∀ x, (enc x).length = k) (hblk : blk < w0.heap.size) (i : Nat) (hi : i < dk.size) (y : α) :
    SWK enc k w0 blk off (dk.setIfInBounds i y) (W.setCells blk (off + i * k) (enc y)) := by
  obtain ⟨n, os, rfl⟩ := h
  refine ⟨n, os, ?_⟩
  unfold sortWorldK
  rw [setCells_grow _ _ _ _ _ (by rw [size_putRowK]; exact hblk)]
  congr 1
  unfold putRowK
  have b : i * k + k ≤ dk.size * k := by
    have := Nat.mul_le_mul_right k (show i + 1 ≤ dk.size from hi); rwa [Nat.add_mul, Nat.one_mul] at this
  rw [setCells_putRow _ _ _ _ _ _ (by rw [hk, size_flatK]; exact b), setMany_set enc k hk dk i hi]

theorem setCells_append (b : Nat) : ∀ (xs ys : List Value) (o : Nat) (w : World), w.setCells b o (xs ++ ys) = (w.setCells b o xs).setCells b (o + xs.length) ys
  | [], ys, o, w => rfl
  | x :: xs, ys, o, w => by
    rw [List.cons_append, World.setCells, World.setCells, setCells_append b xs ys, List.length_cons, Nat.add_assoc, Nat.add_comm 1]

theorem swk_fill (hk : ∀ x, (enc x).length = k) (hblk : blk < w0.heap.size) : ∀ (xs : List α) (dk : Array α) (W : World) (i : Nat), SWK enc k w0 blk off dk W → i + xs.length ≤ dk.size →
    SWK enc k w0 blk off (lay dk i xs) (W.setCells blk (off + i * k) (xs.flatMap enc))
  | [], dk, W, i, h, _ => h
  | x :: xs, dk, W, i, h, hi => by
    have hi' : i + (xs.length + 1) ≤ dk.size := by simpa using hi
    rw [List.flatMap_cons, setCells_append, hk, lay, Nat.add_assoc, show i * k + k = (i + 1) * k by rw [Nat.add_mul, Nat.one_mul]]
    exact swk_fill hk hblk xs _ _ (i + 1) (swk_set h hk hblk i (by omega) x) (by simp; omega)

theorem zeroCells_list (c : Array Value) (n : Nat) : (Builtin.zeroCells c n).toList = (List.replicate n c.toList).flatten := by
  unfold Builtin.zeroCells
  rw [Array.toList_map, Array.toList_range]
  induction n with
  | zero => simp
  | succ n ih =>
    rw [Nat.add_mul, Nat.one_mul, List.range_add, List.map_append, ih, List.replicate_succ', List.flatten_append]
    congr 1
    rw [List.map_map]
    apply List.ext_getElem
    · simp
    · intro i h1 h2
      have hi : i < c.size := by simpa using h1
      simp [Nat.mod_eq_of_lt hi, hi]

theorem run_clear_k (w : World) (t e ty : TypeId) (z : Value) (cs : List Value) (ht : P.underlying t = some (.slice e)) (hv : ∀ w, (zeroValue e).run P w = .ok z w) (hz : z.cells.toList = cs) (h1 : ∀ v ∈ cs, v.oneCell' = true) (b o n c : Nat) (hn : 0 < n)
    (hc : ∀ j, j < n * cs.length → (w.cell? ⟨b, o + j, none⟩).isSome = true) (hf : ∀ j, j < n * cs.length → w.frozen? ⟨b, o + j, none⟩ = false) :
    (Builtin.clear_ #[t] ty #[.slice (some ⟨b, o, none⟩) n c]).run P w = .ok (.tuple #[]) (w.setCells b o (List.replicate n cs).flatten) := by
  have hl : (List.replicate n cs).flatten.length = n * cs.length := by simp
  have hzc : (Builtin.zeroCells z.cells n).toList = (List.replicate n cs).flatten := by rw [zeroCells_list, hz]
  have hst := run_storeCells_cells (P := P) b o (List.replicate n cs).flatten 0 w (by rw [hl]; simpa using hc) (by rw [hl]; simpa using hf) (by
    intro v hv'
    obtain ⟨l, h2, h3⟩ := List.mem_flatten.1 hv'
    rw [List.eq_of_mem_replicate h2] at h3
    exact h1 v h3)
  simp only [Nat.add_zero] at hst
  obtain ⟨m, rfl⟩ : ∃ m, n = m + 1 := ⟨n - 1, by omega⟩
  simp [Builtin.clear_, run_underlying ht, hv, hzc, hst]

theorem replicate_flat {β : Type} {encβ : β → List Value} (n : Nat) (x : β) : (List.replicate n (encβ x)).flatten = (List.replicate n x).flatMap encβ := by
  rw [List.flatMap_def, List.map_replicate]

/-! ### A block of one's own and the row's words -/
/-- The first d.size elements' cells are d's. -/
def Flat (enc : α → List Value) (k : Nat) (cur : Array Value) (d : Array α) : Prop := d.size * k ≤ cur.size ∧ ∀ j c, j < d.size → c < k → cur[j * k + c]? = some (enc d[j]!)[c]!

theorem lt_flat {j c k n : Nat} (hj : j < n) (hc : c < k) : j * k + c < n * k := by
  have := Nat.mul_le_mul_right k (show j + 1 ≤ n from hj); rw [Nat.add_mul, Nat.one_mul] at this; omega
theorem holds_of_flat {w : World} {g : Nat} {cur : Array Value} {e : TypeId} {d : Array α} (hg : w.heap[g]? = some (.cells cur e (0, 0))) (h : Flat enc k cur d) : HoldsK enc k w g 0 d := by
  intro t ht
  rw [size_flatK] at ht
  have k0 : 0 < k := by
    rcases Nat.eq_zero_or_pos k with h | h
    · subst h; simp at ht
    · exact h
  rw [get_flatK _ _ _ _ ht, Nat.zero_add]
  have h1 : t / k < d.size := by rw [Nat.div_lt_iff_lt_mul k0]; exact ht
  have h2 := h.2 (t / k) (t % k) h1 (Nat.mod_lt _ k0)
  rw [Nat.div_add_mod'] at h2
  exact ⟨by simp [World.cell?, hg, h2], by simp [World.frozen?, hg]⟩

theorem heap_swk (h : SWK enc k w0 blk off dk W) {cur : Array Value} {e : TypeId} {fz : Nat × Nat} (hg : w0.heap[blk]? = some (.cells cur e fz)) : W.heap[blk]? = some (.cells (putCells id off (flatK enc k dk) cur) e fz) := by
  obtain ⟨n, os, rfl⟩ := h
  have hb : blk < w0.heap.size := by
    rcases Nat.lt_or_ge blk w0.heap.size with h | h
    · exact h
    · rw [Array.getElem?_eq_none h] at hg; cases hg
  unfold sortWorldK putRowK putRow mapBlock grow
  simp only []
  rw [Array.getElem?_append_left (by simp; exact hb), Array.getElem?_modify, if_pos rfl]
  show (w0.heap[blk]?).map _ = _
  rw [hg]
  rfl
theorem flat_swk (h : SWK enc k w0 blk 0 dk W) {cur : Array Value} {e : TypeId} {fz : Nat × Nat} (hg : w0.heap[blk]? = some (.cells cur e fz)) (hle : dk.size * k ≤ cur.size) :
    ∃ cur', W.heap[blk]? = some (.cells cur' e fz) ∧ cur'.size = cur.size ∧ Flat enc k cur' dk := by
  refine ⟨_, heap_swk h hg, by simp [putCells], ?_, fun j c hj hc => ?_⟩
  · simp [putCells, hle]
  · have hl := lt_flat hj hc
    have e1 : (j * k + c) / k = j := (blk_iff k j _ (by omega)).1 ⟨by omega, by omega⟩
    have e2 : (j * k + c) % k = c := by rw [Nat.mod_eq_sub_div_mul, e1]; omega
    have h3 := get_flatK enc k dk (j * k + c) hl
    rw [e1, e2] at h3
    unfold putCells
    rw [Array.getElem?_mapIdx, Array.getElem?_eq_getElem (by omega)]
    simp only [Option.map_some, Nat.zero_le, true_and, Nat.zero_add, size_flatK, hl, if_true, Nat.sub_zero, h3]
    rfl
theorem below_swk (h : SWK enc k w0 blk off dk W) {B : Nat} (hB : B ≤ blk) (hblk : blk < w0.heap.size) : Below B w0 W := by
  obtain ⟨n, os, rfl⟩ := h
  refine ⟨rfl, rfl, rfl, ?_, fun j hj => ?_⟩
  · show _ ≤ (grow (putRowK enc k (Sort.ahead w0 n) blk off dk) os).heap.size
    rw [size_grow, size_putRowK]; exact Nat.le_add_right _ _
  · unfold sortWorldK putRowK putRow mapBlock grow
    simp only []
    rw [Array.getElem?_append_left (by simp; show j < w0.heap.size; omega), Array.getElem?_modify, if_neg (by omega)]
    rfl

/-- One element's cells, stored. -/
theorem _root_.Go.Proofs.SWK.st0 {d0 : Array α} (h : SWK enc k w0 blk off dk W) (R : RowK enc k w0 blk off d0) (hs : dk.size = d0.size) (P : Program) (i : Nat) (hi : i < dk.size) (y : α) :
    Sem.run P (storeCells ⟨blk, off + i * k, none⟩ (enc y) 0) W = .ok () (W.setCells blk (off + i * k) (enc y)) :=
  stores_of_holds P (h.holds R.hblk R.hH hs) (i * k) _ (by rw [R.hk, size_flatK]; exact rowK_bnd dk k i hi) (R.h1 _)

/-- Compaction's relation, then the tail of zero values. -/
theorem swk_done [DecidableEq α] {d : Array α} {kk : Nat} (h : SWK enc k w0 blk off dk W) (hk : ∀ x, (enc x).length = k) (hblk : blk < w0.heap.size) (hI : CompInv d d.size kk dk) (zr : α) :
    SWK enc k w0 blk off (compactUpTo d d.size ++ List.replicate (d.size - kk) zr).toArray (W.setCells blk (off + kk * k) (List.replicate (d.size - kk) (enc zr)).flatten) := by
  have := swk_fill hk hblk (List.replicate (d.size - kk) zr) dk W kk h (by have := hI.lt; have := hI.size; simp; omega)
  rw [hI.done zr] at this
  rwa [replicate_flat]
end Go.Proofs.SymP
/- The walk of slices.SortStableFunc's family at []api.Fact: slices.CompactFunc; what is asked: the comparing function's contract (it may lay blocks), how the row lies. -/
set_option linter.unusedVariables false
set_option linter.unusedSimpArgs false
namespace Go.Proofs.Ytghommaokdhjmaa.SortF
open Go.Shelf Go.RowKit Go.Lib Go.Sort Go.Proofs.SymP
/-- What is asked of the closure: at each two elements, in each world of the row's, it answers ef, and turns nothing of what lay. -/
def EqLays {α : Type} [Inhabited α] (P : Program) (g : Nat) (cb : Array Value) (enc : α → List Value) (k : Nat) (ef : α → α → Bool) (blk off size : Nat) (w : World) : Prop :=
  ∀ (m : Nat) (os : Array Obj) (dk : Array α), dk.size = size → ∀ x y : α,
    Calls P g (#[.agg (enc x).toArray, .agg (enc y).toArray] ++ cb) (sortWorldK enc k w blk off m dk os) fun e w' => e = .returned (.bool (ef x y)) ∧ ∃ q os', w' = grow ((sortWorldK enc k w blk off m dk os).drewN q) os'
theorem _root_.Go.Proofs.SWK.eqv {P : Program} {α : Type} [Inhabited α] {enc : α → List Value} {k : Nat} {w0 W : World} {blk off : Nat} {dk : Array α} {g : Nat} {cb : Array Value} {ef : α → α → Bool} {size : Nat} (h : SWK enc k w0 blk off dk W) (hC : EqLays P g cb enc k ef blk off size w0) (hs : dk.size = size) (x y : α) (n : Nat) (os : Array Obj) :
    Calls P g (#[.agg (enc x).toArray, .agg (enc y).toArray] ++ cb) (grow (W.drewN n) os) fun e w' => e = .returned (.bool (ef x y)) ∧ ∃ q os', w' = grow ((grow (W.drewN n) os).drewN q) os' := by
  obtain ⟨m, os0, hw⟩ := h.grown n os
  rw [hw]
  exact hC m os0 dk hs x y
/-- Is place j kept? -/
def kpE {α : Type} [Inhabited α] (ef : α → α → Bool) (d : Array α) (j : Nat) : Bool := decide (j = 0 ∨ ef d[j]! d[j - 1]! = false)
theorem kpE_lt_one {α : Type} [Inhabited α] (ef : α → α → Bool) (d : Array α) : ∀ j, j < 1 → kpE ef d j = true := by
  intro j h
  obtain rfl : j = 0 := by omega
  simp [kpE]
theorem kpE_pos {α : Type} [Inhabited α] {ef : α → α → Bool} {d : Array α} {m : Nat} (h : ¬ ef d[m]! d[m - 1]! = true) : kpE ef d m = true := by simp [kpE, h]
theorem kpE_neg {α : Type} [Inhabited α] {ef : α → α → Bool} {d : Array α} {m : Nat} (hm : 0 < m) (h : ef d[m]! d[m - 1]! = true) : kpE ef d m = false := by
  have : m ≠ 0 := by omega
  simp [kpE, h, this]
theorem swk_kept {α : Type} [Inhabited α] {enc : α → List Value} {k : Nat} {w0 W : World} {blk off : Nat} {dk : Array α} {kp : Nat → Bool} {d : Array α} {kk : Nat} (h : SWK enc k w0 blk off dk W) (hk : ∀ x, (enc x).length = k) (hblk : blk < w0.heap.size) (hI : KeptInv kp d d.size kk dk) (zr : α) :
    SWK enc k w0 blk off (keptUpTo kp d d.size ++ List.replicate (d.size - kk) zr).toArray (W.setCells blk (off + kk * k) (List.replicate (d.size - kk) (enc zr)).flatten) := by
  have := swk_fill hk hblk (List.replicate (d.size - kk) zr) dk W kk h (by have := hI.lt; have := hI.size; simp; omega)
  rw [hI.done zr] at this
  rwa [replicate_flat]
variable {P : Program} {α : Type} [Inhabited α]

set_option maxHeartbeats 8000000 in
set_option maxRecDepth 1000000 in
theorem compactFunc (L : Lays P) (k : Nat) (aE : ∀ w, (isAgg 53).run P w = .ok true w) (zE : ∀ w, (Go.sizeOf 53).run P w = .ok k w) (enc : α → List Value) (blk off sz cap : Nat) (d0 d : Array α) (w0 w : World) (FG : P.funcs[96]? = some Try.f96)
    (ef : α → α → Bool) (g : Nat) (cb : Array Value) (eg : ∀ args w, (callFunc g args).run P w = .ok (.enter g args) w) (hcmp : EqLays P g cb enc k ef blk off d0.size w0)
    (zr : α) (vE : ∀ w, (zeroValue 53).run P w = .ok (.agg (enc zr).toArray) w)
    (R : RowK enc k w0 blk off d0) (hs : d0.size = sz) (hd : d.size = sz) (S : SWK enc k w0 blk off d w) (hsz : sz < 4611686018427387904) (hcap : sz ≤ cap) :
    Calls P 96 #[.slice (some ⟨blk, off, none⟩) sz cap, .func (.func g) #[] cb] w fun e w' => e = .returned (.slice (some ⟨blk, off, none⟩) (keptUpTo (kpE ef d) d d.size).length cap) ∧ SWK enc k w0 blk off (keptUpTo (kpE ef d) d d.size ++ List.replicate (d.size - (keptUpTo (kpE ef d) d d.size).length) zr).toArray w' := by
  subst hd
  have HC : Aside (EqLays P g cb enc k ef blk off d0.size w0) := hcmp
  clear hcmp
  have mixed := L.mixed; have t0 := L.t0; have a0 := L.a0; have z0 := L.z0; have v0 := L.v0; have tI := L.tI; have aI := L.aI; have zI := L.zI; have vI := L.vI; have tB := L.tB; have aB := L.aB; have zB := L.zB; have vB := L.vB; have tS := L.tS; have aS := L.aS; have zS := L.zS; have vS := L.vS; have tF := L.tF; have aF := L.aF; have zF := L.zF; have vF := L.vF; have tU := L.tU; have aU := L.aU; have zU := L.zU; have vU := L.vU
  have S0 : Aside (SWK enc k w0 blk off d w) := S
  clear S
  have hcl0 : ∀ x, (Value.agg (enc x).toArray).cells = (enc x).toArray := fun x => rfl
  simp only [Value.cells] at hcl0
  have same : (∀ j, j < d.size → kpE ef d j = true) → (keptUpTo (kpE ef d) d d.size).length = d.size ∧ (keptUpTo (kpE ef d) d d.size ++ List.replicate (d.size - (keptUpTo (kpE ef d) d d.size).length) zr).toArray = d := by
    intro hall
    have e : keptUpTo (kpE ef d) d d.size = d.toList := by rw [keptUpTo_all _ d _ hall, range_map_get]
    rw [e]
    exact ⟨by simp, by simp⟩
  have HS : Aside ((∀ j, j < d.size → kpE ef d j = true) → (keptUpTo (kpE ef d) d d.size).length = d.size ∧ (keptUpTo (kpE ef d) d d.size ++ List.replicate (d.size - (keptUpTo (kpE ef d) d d.size).length) zr).toArray = d) := same
  clear same
  by_cases h2 : d.size < 2
  · have h2z : (d.size : Int) < 2 := by omega
    go_enter FG, Try.ntmps96
    go_wp2
    go_ret
    obtain ⟨e1, e2⟩ := HS.out (fun j hj => kpE_lt_one ef d j (by omega))
    exact ⟨by rw [e1]; rfl, by rw [e2]; exact S0.out⟩
  · have h2z : ¬ (d.size : Int) < 2 := by omega
    go_enter FG, Try.ntmps96
    go_wp2
    go_loopg [5] d.size (fun g s3 wr => ∃ k1 : Nat, 1 ≤ k1 ∧ k1 ≤ d.size ∧ d.size - k1 ≤ g ∧ s3 = .int .i64 k1 ∧ Aside (SWK enc k w0 blk off d wr) ∧ Hid (∀ j, j < k1 → kpE ef d j = true))
    case atStart => exact ⟨1, Nat.le_refl _, by omega, by omega, rfl, S0, kpE_lt_one ef d⟩
    case round =>
      clear S0
      obtain ⟨k1, hk1, hk, hg, rfl, S1, A⟩ := hrel
      by_cases hlt : k1 < d.size
      · have hltz : (k1 : Int) < (d.size : Int) := by omega
        have ea1 : ((k1 : Int)).toNat = k1 := by omega
        have pa1 : (0 : Int) ≤ (k1 : Int) := by omega
        have ba1 : (k1 : Int) < (d.size : Int) := by omega
        have ra1 : IntKind.i64.wrap ((k1 : Int)) = (k1 : Int) := by rw [IntKind.wrap_i64]; omega
        have ec1 : ((k1 : Int) - 1).toNat = k1 - 1 := by omega
        have pz1 : (1 : Int) ≤ (k1 : Int) := by omega
        have pc1 : (0 : Int) ≤ (k1 : Int) - 1 := by omega
        have bc1 : (k1 : Int) - 1 < (d.size : Int) := by omega
        have rc1 : IntKind.i64.wrap ((k1 : Int) - 1) = (k1 : Int) - 1 := by rw [IntKind.wrap_i64]; omega
        have l1a := S1.out.ld R (by omega) P (k1) (by omega)
        have l1b := S1.out.ld R (by omega) P (k1 - 1) (by omega)
        obtain ⟨x, hx⟩ : ∃ x, d[k1]! = x := ⟨_, rfl⟩
        obtain ⟨y, hy⟩ : ∃ y, d[k1 - 1]! = y := ⟨_, rfl⟩
        have B : Hid (d[k1]! = x ∧ d[k1 - 1]! = y) := ⟨hx, hy⟩
        rw [hx] at l1a
        rw [hy] at l1b
        clear hx hy
        have nx : (enc x).length = k := R.hk _
        have ny : (enc y).length = k := R.hk _
        have q1 := S1.out.eqv HC.out (by omega) x y
        by_cases hdup : ef x y = true
        · have hdd : ef x y = true := hdup
          rw [hdd] at q1
          generalize hcx : enc x = cx at l1a q1
          generalize hcy : enc y = cy at l1b q1
          go_wp2_with fail
          go_quiet_grown (first | (go_at_fn g; refine Calls.grown_of (q1 _ _)))
          have S2 : Aside (SWK enc k w0 blk off d (grow (wr.drewN nq) osq)) := S1.out.grown nq osq
          clear S1 l1a l1b q1
          generalize grow (wr.drewN nq) osq = w2 at S2 ⊢
          clear nq osq
          have S1 := S2
          go_wp2
          skip
          go_loopg [5, 7] d.size (fun g s3 s5 wr => ∃ (kk k2 : Nat) (dk : Array α), s3 = .int .i64 kk ∧ s5 = .int .i64 k2 ∧ 1 ≤ k2 ∧ k1 + k2 ≤ d.size ∧ d.size - (k1 + k2) ≤ g ∧ Aside (SWK enc k w0 blk off dk wr) ∧ Hid (KeptInv (kpE ef d) d (k1 + k2) kk dk))
          case atStart => exact ⟨k1, 1, d, rfl, rfl, Nat.le_refl _, by omega, by omega, S1.out, KeptInv.start A.out (kpE_neg (by omega) (by rw [B.out.1, B.out.2]; exact hdup))⟩
          case round =>
            clear S1 A B hg
            obtain ⟨kk, k2, dk, rfl, rfl, h1, hle, hg2, S1, I2⟩ := hrel
            have hkk := I2.out.lt
            have hds := I2.out.size
            by_cases hlt2 : k1 + k2 < d.size
            · have hlt2z : (k2 : Int) < ((d.size - k1 : Nat) : Int) := by omega
              have ea2 : ((k2 : Int)).toNat = k2 := by omega
              have pa2 : (0 : Int) ≤ (k2 : Int) := by omega
              have ba2 : (k2 : Int) < (d.size : Int) := by omega
              have ra2 : IntKind.i64.wrap ((k2 : Int)) = (k2 : Int) := by rw [IntKind.wrap_i64]; omega
              have ec2 : ((k2 : Int) - 1).toNat = k2 - 1 := by omega
              have pz2 : (1 : Int) ≤ (k2 : Int) := by omega
              have by2 : (k2 : Int) - 1 < ((d.size - k1 : Nat) : Int) := by omega
              have pc2 : (0 : Int) ≤ (k2 : Int) - 1 := by omega
              have bc2 : (k2 : Int) - 1 < (d.size : Int) := by omega
              have rc2 : IntKind.i64.wrap ((k2 : Int) - 1) = (k2 : Int) - 1 := by rw [IntKind.wrap_i64]; omega
              have ed2 : ((kk : Int)).toNat = kk := by omega
              have pd2 : (0 : Int) ≤ (kk : Int) := by omega
              have bd2 : (kk : Int) < (d.size : Int) := by omega
              have rd2 : IntKind.i64.wrap ((kk : Int)) = (kk : Int) := by rw [IntKind.wrap_i64]; omega
              have e2x : (k1 + k2) * k = k1 * k + k2 * k := Nat.add_mul _ _ _
              have e2y : (k1 + k2 - 1) * k = k1 * k + (k2 - 1) * k := by rw [show k1 + k2 - 1 = k1 + (k2 - 1) by omega, Nat.add_mul]
              have l2a := S1.out.ld R (by omega) P (k1 + k2) (by omega)
              have l2b := S1.out.ld R (by omega) P (k1 + k2 - 1) (by omega)
              rw [I2.out.high (k1 + k2) (by omega), e2x, ← Nat.add_assoc] at l2a
              rw [I2.out.high (k1 + k2 - 1) (by omega), e2y, ← Nat.add_assoc] at l2b
              obtain ⟨u, hu⟩ : ∃ x, d[k1 + k2]! = x := ⟨_, rfl⟩
              obtain ⟨v, hv⟩ : ∃ y, d[k1 + k2 - 1]! = y := ⟨_, rfl⟩
              have C : Hid (d[k1 + k2]! = u ∧ d[k1 + k2 - 1]! = v) := ⟨hu, hv⟩
              rw [hu] at l2a
              rw [hv] at l2b
              clear hu hv e2x e2y
              have nu : (enc u).length = k := R.hk _
              have nv : (enc v).length = k := R.hk _
              have q1 := S1.out.eqv HC.out (by omega) u v
              by_cases huv : ef u v = true
              · have hdd : ef u v = true := huv
                rw [hdd] at q1
                generalize hcx : enc u = cx at l2a q1
                generalize hcy : enc v = cy at l2b q1
                go_wp2_with fail
                go_quiet_grown (first | (go_at_fn g; refine Calls.grown_of (q1 _ _)))
                have S2 : Aside (SWK enc k w0 blk off dk (grow (wr.drewN nq) osq)) := S1.out.grown nq osq
                clear S1 l2a l2b q1
                generalize grow (wr.drewN nq) osq = w2 at S2 ⊢
                clear nq osq
                have S1 := S2
                go_wp2
                go_roundg (d.size - (k1 + (k2 + 1)))
                case measure => omega
                case rel => exact ⟨kk, k2 + 1, dk, rfl, by go_num, by omega, by omega, Nat.le_refl _, S1.out, I2.out.skip (kpE_neg (by omega) (by rw [C.out.1, C.out.2]; exact huv))⟩
              · have hdd : ef u v = false := Bool.eq_false_iff.2 huv
                rw [hdd] at q1
                generalize hcx : enc u = cx at l2a q1 nu
                generalize hcy : enc v = cy at l2b q1
                go_wp2_with fail
                go_quiet_grown (first | (go_at_fn g; refine Calls.grown_of (q1 _ _)))
                have S2 : Aside (SWK enc k w0 blk off dk (grow (wr.drewN nq) osq)) := S1.out.grown nq osq
                clear S1 l2a l2b q1
                generalize grow (wr.drewN nq) osq = w2 at S2 ⊢
                clear nq osq
                have l3 := S2.out.load R (by omega) P (k1 + k2) (by omega)
                rw [I2.out.high (k1 + k2) (by omega), C.out.1, show (k1 + k2) * k = k1 * k + k2 * k from Nat.add_mul _ _ _, ← Nat.add_assoc, hcx] at l3
                have s3 := S2.out.st0 R (by omega) P kk (by omega) u
                have S3 : Aside _ := swk_set S2.out R.hk R.hblk kk (by omega) u
                rw [hcx] at s3 S3
                go_wp2
                go_roundg (d.size - (k1 + (k2 + 1)))
                case measure => omega
                case rel => exact ⟨kk + 1, k2 + 1, dk.setIfInBounds kk u, by go_num, by go_num, by omega, by omega, Nat.le_refl _, S3.out, by have := I2.out.keep hlt2 (kpE_pos (by rw [C.out.1, C.out.2]; exact huv)); rwa [C.out.1] at this⟩
            · have hend : k1 + k2 = d.size := by omega
              have hlt2z : ¬ (k2 : Int) < ((d.size - k1 : Nat) : Int) := by omega
              have hcl : ∀ ty, (Builtin.clear_ #[46] ty #[.slice (some ⟨blk, off + kk * k, none⟩) (d.size - kk) (cap - kk)]).run P wr = .ok (.tuple #[]) (wr.setCells blk (off + kk * k) (List.replicate (d.size - kk) (enc zr)).flatten) :=
                fun ty => run_clear_k wr _ _ ty _ (enc zr) tS vE (by rfl) (R.h1 zr) blk (off + kk * k) _ _ (by omega) (fun j hj => by
                  rw [R.hk] at hj
                  have := (S1.out.holds R.hblk R.hH (by omega)) (kk * k + j) (by rw [size_flatK, hds]; have := Nat.sub_mul d.size kk k; have := Nat.mul_le_mul_right k (show kk ≤ d.size by omega); omega)
                  rw [← Nat.add_assoc] at this
                  rw [this.1]; rfl) (fun j hj => by
                  rw [R.hk] at hj
                  have := (S1.out.holds R.hblk R.hH (by omega)) (kk * k + j) (by rw [size_flatK, hds]; have := Nat.sub_mul d.size kk k; have := Nat.mul_le_mul_right k (show kk ≤ d.size by omega); omega)
                  rw [← Nat.add_assoc] at this
                  exact this.2)
              go_wp2
              go_ret
              have hI := I2.out
              rw [hend] at hI
              refine ⟨by rw [hI.len]; rfl, ?_⟩
              rw [hI.len]
              exact swk_kept S1.out R.hk R.hblk hI zr
        · have hdd : ef x y = false := Bool.eq_false_iff.2 hdup
          rw [hdd] at q1
          generalize hcx : enc x = cx at l1a q1
          generalize hcy : enc y = cy at l1b q1
          go_wp2_with fail
          go_quiet_grown (first | (go_at_fn g; refine Calls.grown_of (q1 _ _)))
          have S2 : Aside (SWK enc k w0 blk off d (grow (wr.drewN nq) osq)) := S1.out.grown nq osq
          clear S1 l1a l1b q1
          generalize grow (wr.drewN nq) osq = w2 at S2 ⊢
          clear nq osq
          have S1 := S2
          go_wp2
          go_roundg (d.size - (k1 + 1))
          case measure => omega
          case rel =>
            refine ⟨k1 + 1, by omega, by omega, Nat.le_refl _, by go_num, S1.out, fun j hj => ?_⟩
            by_cases e : j = k1
            · subst e
              exact kpE_pos (by rw [B.out.1, B.out.2]; exact hdup)
            · exact A.out j (by omega)
      · have hltz : ¬ (k1 : Int) < (d.size : Int) := by omega
        go_wp2
        go_ret
        obtain ⟨e1, e2⟩ := HS.out (fun j hj => A.out j (by omega))
        exact ⟨by rw [e1]; rfl, by rw [e2]; exact S1.out⟩
#print axioms compactFunc
end Go.Proofs.Ytghommaokdhjmaa.SortF
/- slices.IndexFunc and slices.DeleteFunc over []api.Fact, in the worlds of a row that is being turned (SWK): the closure's contract is asked. -/
set_option linter.unusedVariables false
set_option linter.unusedSimpArgs false
namespace Go.Proofs.Ytghommaokdhjmaa.SortF
open Go.Shelf Go.RowKit Go.Lib Go.Sort Go.Proofs.SymP
/-- What is asked of the closure: at each element, in each world of the row's, it answers pf, and turns nothing of what lay. -/
def DelLays {α : Type} [Inhabited α] (P : Program) (g : Nat) (cb : Array Value) (enc : α → List Value) (k : Nat) (pf : α → Bool) (blk off size : Nat) (w : World) : Prop :=
  ∀ (m : Nat) (os : Array Obj) (dk : Array α), dk.size = size → ∀ x : α,
    Calls P g (#[.agg (enc x).toArray] ++ cb) (sortWorldK enc k w blk off m dk os) fun e w' => e = .returned (.bool (pf x)) ∧ ∃ q os', w' = grow ((sortWorldK enc k w blk off m dk os).drewN q) os'
theorem _root_.Go.Proofs.SWK.del {P : Program} {α : Type} [Inhabited α] {enc : α → List Value} {k : Nat} {w0 W : World} {blk off : Nat} {dk : Array α} {g : Nat} {cb : Array Value} {pf : α → Bool} {size : Nat} (h : SWK enc k w0 blk off dk W) (hC : DelLays P g cb enc k pf blk off size w0) (hs : dk.size = size) (x : α) :
    Calls P g (#[.agg (enc x).toArray] ++ cb) W fun e w' => e = .returned (.bool (pf x)) ∧ SWK enc k w0 blk off dk w' := by
  obtain ⟨m, os0, hw⟩ := h
  rw [hw]
  refine (hC m os0 dk hs x).mono fun e w' ⟨he, q, os', hq⟩ => ⟨he, ?_⟩
  rw [hq]
  exact (SWK.grown (show SWK enc k w0 blk off dk (sortWorldK enc k w0 blk off m dk os0) from ⟨m, os0, rfl⟩) q os')
variable {P : Program} {α : Type} [Inhabited α]
set_option maxHeartbeats 4000000 in
set_option maxRecDepth 1000000 in
theorem indexF (L : Lays P) (k : Nat) (aE : ∀ w, (isAgg 53).run P w = .ok true w) (zE : ∀ w, (Go.sizeOf 53).run P w = .ok k w) (enc : α → List Value) (blk off sz cap : Nat) (d0 d : Array α) (w0 w : World) (FG : P.funcs[93]? = some Try.f93)
    (pf : α → Bool) (g : Nat) (cb : Array Value) (eg : ∀ args w, (callFunc g args).run P w = .ok (.enter g args) w) (hdel : DelLays P g cb enc k pf blk off d0.size w0)
    (R : RowK enc k w0 blk off d0) (hs : d0.size = sz) (hd : d.size = sz) (S : SWK enc k w0 blk off d w) (hsz : sz < 4611686018427387904) :
    Calls P 93 #[.slice (some ⟨blk, off, none⟩) sz cap, .func (.func g) #[] cb] w fun e w' => ∃ r : Int, e = .returned (.int .i64 r) ∧ SWK enc k w0 blk off d w' ∧ ((r = -1 ∧ ∀ j, j < d.size → pf d[j]! = false) ∨ ∃ i : Nat, r = i ∧ i < d.size ∧ pf d[i]! = true ∧ ∀ j, j < i → pf d[j]! = false) := by
  subst hd
  have HC : Aside (DelLays P g cb enc k pf blk off d0.size w0) := hdel
  clear hdel
  have mixed := L.mixed; have t0 := L.t0; have a0 := L.a0; have z0 := L.z0; have v0 := L.v0; have tI := L.tI; have aI := L.aI; have zI := L.zI; have vI := L.vI; have tB := L.tB; have aB := L.aB; have zB := L.zB; have vB := L.vB; have tS := L.tS; have aS := L.aS; have zS := L.zS; have vS := L.vS
  have S0 : Aside (SWK enc k w0 blk off d w) := S
  clear S
  go_enter FG, Try.ntmps93
  go_wp2
  go_loopg [5, 8] d.size (fun gg _ s8 wr => ∃ kk : Nat, kk ≤ d.size ∧ d.size - kk ≤ gg ∧ s8 = .int .i64 kk ∧ Aside (SWK enc k w0 blk off d wr) ∧ Aside (∀ j, j < kk → pf d[j]! = false))
  case atStart => exact ⟨0, Nat.zero_le _, by omega, rfl, S0, fun j hj => absurd hj (Nat.not_lt_zero _)⟩
  case round =>
    clear S0
    obtain ⟨kk, hkk, hg, rfl, S1, AN⟩ := hrel
    by_cases hlt : kk < d.size
    · have hltz : (kk : Int) < (d.size : Int) := by omega
      have l1 := S1.out.load R (by omega) P kk (by omega)
      have q1 := S1.out.del HC.out (by omega) d[kk]!
      obtain ⟨y, hy⟩ : ∃ y, d[kk]! = y := ⟨_, rfl⟩
      have B : Hid (d[kk]! = y) := hy
      rw [hy] at l1 q1
      clear hy
      cases hq : pf y with
      | true =>
        rw [hq] at q1
        generalize enc y = cy at l1 q1
        go_wp2_with (go_at_fn g; refine q1.mono ?_; rintro e w' ⟨rfl, hb'⟩)
        go_ret
        exact ⟨_, rfl, hb', .inr ⟨kk, rfl, hlt, by rw [B.out]; exact hq, AN.out⟩⟩
      | false =>
        rw [hq] at q1
        generalize enc y = cy at l1 q1
        go_wp2_with (go_at_fn g; refine q1.mono ?_; rintro e w' ⟨rfl, hb'⟩)
        go_roundg (d.size - (kk + 1))
        case measure => omega
        case rel =>
          refine ⟨kk + 1, by omega, by omega, by go_num, hb', (show Aside _ from fun j hj => ?_)⟩
          by_cases e : j = kk
          · subst e
            rw [B.out]; exact hq
          · exact AN.out j (by omega)
    · have hltz : ¬ (kk : Int) < (d.size : Int) := by omega
      obtain rfl : kk = d.size := by omega
      go_wp2
      go_ret
      exact ⟨-1, rfl, S1.out, .inl ⟨rfl, AN.out⟩⟩
end Go.Proofs.Ytghommaokdhjmaa.SortF
/- slices.DeleteFunc over []api.Fact, in the worlds of a row that is being turned (SWK): the closure's contract is asked. -/
set_option linter.unusedVariables false
set_option linter.unusedSimpArgs false
namespace Go.Proofs.Ytghommaokdhjmaa.SortF
open Go.Shelf Go.RowKit Go.Lib Go.Sort Go.Proofs.SymP
/-- The closure's contract in a row's world: the word again, and what behind it lies is what lay ahead of it, grown. -/
theorem _root_.Go.Proofs.SWK.del2 {P : Program} {α : Type} [Inhabited α] {enc : α → List Value} {k : Nat} {w0 W : World} {blk off : Nat} {dk : Array α} {g : Nat} {cb : Array Value} {pf : α → Bool} {size : Nat} (h : SWK enc k w0 blk off dk W) (hC : DelLays P g cb enc k pf blk off size w0) (hs : dk.size = size) (x : α) :
    Calls P g (#[.agg (enc x).toArray] ++ cb) W fun e w' => e = .returned (.bool (pf x)) ∧ SWK enc k w0 blk off dk w' ∧ ∃ q os', w' = grow (W.drewN q) os' := by
  obtain ⟨m, os0, hw⟩ := h
  rw [hw]
  refine (hC m os0 dk hs x).mono fun e w' ⟨he, q, os', hq⟩ => ⟨he, ?_, q, os', hq⟩
  rw [hq]
  exact (SWK.grown (show SWK enc k w0 blk off dk (sortWorldK enc k w0 blk off m dk os0) from ⟨m, os0, rfl⟩) q os')
theorem least (p : Nat → Bool) : ∀ n, (∀ j, j < n → p j = false) ∨ ∃ i, i < n ∧ p i = true ∧ ∀ j, j < i → p j = false
  | 0 => .inl fun j h => absurd h (Nat.not_lt_zero _)
  | n + 1 => by
    rcases least p n with h | ⟨i, h1, h2⟩
    · cases hq : p n with
      | true => exact .inr ⟨n, Nat.lt_succ_self _, hq, h⟩
      | false =>
        refine .inl fun j hj => ?_
        by_cases e : j = n
        · rw [e]; exact hq
        · exact h j (by omega)
    · exact .inr ⟨i, by omega, h2⟩
variable {P : Program} {α : Type} [Inhabited α]
set_option maxHeartbeats 4000000 in
set_option maxRecDepth 1000000 in
theorem deleteF (L : Lays P) (hu53 : P.underlying 53 = Try.prog.underlying 53) (aE : ∀ w, (isAgg 53).run P w = .ok true w) (zE : ∀ w, (Go.sizeOf 53).run P w = .ok 2 w) (sx : α → ByteArray) (ax : α → Option Addr) (nx cx : α → Nat) (blk off sz cap : Nat) (d0 d : Array α) (w0 w : World) (FI : P.funcs[93]? = some Try.f93) (FG : P.funcs[75]? = some Try.f75)
    (pf : α → Bool) (g : Nat) (cb : Array Value) (eg : ∀ args w, (callFunc g args).run P w = .ok (.enter g args) w) (hdel : DelLays P g cb (fun x => [.string (sx x), .slice (ax x) (nx x) (cx x)]) 2 pf blk off d0.size w0)
    (zr : α) (vE : ∀ w, (zeroValue 53).run P w = .ok (.agg #[.string (sx zr), .slice (ax zr) (nx zr) (cx zr)]) w)
    (R : RowK (fun x => [.string (sx x), .slice (ax x) (nx x) (cx x)]) 2 w0 blk off d0) (hs : d0.size = sz) (hd : d.size = sz) (S : SWK (fun x => [.string (sx x), .slice (ax x) (nx x) (cx x)]) 2 w0 blk off d w) (hsz : sz < 4611686018427387904) (hcap : sz ≤ cap) :
    Calls P 75 #[.slice (some ⟨blk, off, none⟩) sz cap, .func (.func g) #[] cb] w fun e w' => e = .returned (.slice (some ⟨blk, off, none⟩) (keptUpTo (fun j => !pf d[j]!) d d.size).length cap) ∧ SWK (fun x => [.string (sx x), .slice (ax x) (nx x) (cx x)]) 2 w0 blk off (keptUpTo (fun j => !pf d[j]!) d d.size ++ List.replicate (d.size - (keptUpTo (fun j => !pf d[j]!) d d.size).length) zr).toArray w' := by
  subst hd
  have hI := indexF L 2 aE zE (fun x => [.string (sx x), .slice (ax x) (nx x) (cx x)]) blk off d.size cap d0 d w0 w FI pf g cb eg hdel R hs rfl S hsz
  have HC : Aside (DelLays P g cb (fun x => [.string (sx x), .slice (ax x) (nx x) (cx x)]) 2 pf blk off d0.size w0) := hdel
  clear hdel
  have mixed := L.mixed; have t0 := L.t0; have a0 := L.a0; have z0 := L.z0; have v0 := L.v0; have tI := L.tI; have aI := L.aI; have zI := L.zI; have vI := L.vI; have tB := L.tB; have aB := L.aB; have zB := L.zB; have vB := L.vB; have tS := L.tS; have aS := L.aS; have zS := L.zS; have vS := L.vS
  have ei : ∀ args w, (callFunc 93 args).run P w = .ok (.enter 93 args) w := enters_of FI (by kernel_rfl) rfl
  clear S
  rcases (show (∀ j, j < d.size → pf d[j]! = false) ∨ ∃ i : Nat, i < d.size ∧ pf d[i]! = true ∧ ∀ j, j < i → pf d[j]! = false from least (fun j => pf d[j]!) d.size) with hall | ⟨i, hi, hpi, hall⟩
  · have hJ := hI.mono (R' := fun e w' => e = .returned (.int .i64 (-1)) ∧ SWK (fun x => [.string (sx x), .slice (ax x) (nx x) (cx x)]) 2 w0 blk off d w') (by
      rintro e w1 ⟨r, rfl, hS, hr⟩
      rcases hr with ⟨rfl, _⟩ | ⟨i, rfl, hi, hpi, _⟩
      · exact ⟨rfl, hS⟩
      · rw [hall i hi] at hpi; cases hpi)
    clear hI
    go_enter FG, Try.ntmps75
    go_wp2_with (go_at_fn 93; refine hJ.mono ?_; rintro e w1 ⟨rfl, hS⟩)
    go_ret
    have e1 : keptUpTo (fun j => !pf d[j]!) d d.size = d.toList := by rw [keptUpTo_all _ d _ (fun j hj => by simp [hall j hj]), range_map_get]
    rw [e1]
    exact ⟨by simp, by simpa using hS⟩
  · have hne : ((i : Int) == -1) = false := by rw [beq_eq_false_iff_ne]; omega
    have hJ := hI.mono (R' := fun e w' => e = .returned (.int .i64 i) ∧ SWK (fun x => [.string (sx x), .slice (ax x) (nx x) (cx x)]) 2 w0 blk off d w') (by
      rintro e w1 ⟨r, rfl, hS, hr⟩
      rcases hr with ⟨rfl, h⟩ | ⟨i2, rfl, hi2, hpi2, h2⟩
      · rw [h i hi] at hpi; cases hpi
      · obtain rfl : i2 = i := by
          rcases Nat.lt_trichotomy i2 i with h | h | h
          · rw [hall i2 h] at hpi2; cases hpi2
          · exact h
          · rw [h2 i h] at hpi; cases hpi
        exact ⟨rfl, hS⟩)
    clear hI
    go_enter FG, Try.ntmps75
    go_wp2_with (go_at_fn 93; refine hJ.mono ?_; rintro e w1 ⟨rfl, hS⟩)
    have S1 : Aside _ := hS
    clear hS hJ
    have A0 : Hid (KeptInv (fun j => !pf d[j]!) d (i + 1) i d) := KeptInv.start (fun j hj => by simp [hall j hj]) (by simp [hpi])
    clear hpi hall
    go_loopg [5, 6] d.size (fun gg s5 s6 wr => ∃ (k1 k2 : Nat) (dk : Array α), s5 = .int .i64 k1 ∧ s6 = .int .i64 k2 ∧ k2 ≤ d.size ∧ d.size - k2 ≤ gg ∧ k1 < k2 ∧ Aside (SWK (fun x => [.string (sx x), .slice (ax x) (nx x) (cx x)]) 2 w0 blk off dk wr) ∧ Hid (KeptInv (fun j => !pf d[j]!) d k2 k1 dk))
    case atStart => exact ⟨i, i + 1, d, rfl, by go_num, by omega, by omega, by omega, S1, A0⟩
    case round =>
      clear S1 A0
      obtain ⟨k1, k2, dk, rfl, rfl, hk2, hg, hk12, S1, I1⟩ := hrel
      by_cases hlt : k2 < d.size
      · have hltz : (k2 : Int) < (d.size : Int) := by omega
        have hk1z : (k1 : Int) < (d.size : Int) := by omega
        have hdk : dk.size = d.size := I1.out.size
        have hdk' : dk.size = d0.size := by omega
        have l1 := fun j v => HoldsK.cells (S1.out.holds R.hblk R.hH hdk') R.hk (i := k2) (by omega) j v
        rw [I1.out.high k2 (by omega)] at l1
        have l10 := l1 0 (.string (sx d[k2]!)) rfl
        have l11 : wr.cell? ⟨blk, off + k2 * 2 + 1, none⟩ = some (.slice (ax d[k2]!) (nx d[k2]!) (cx d[k2]!)) := l1 1 (.slice (ax d[k2]!) (nx d[k2]!) (cx d[k2]!)) rfl
        rw [Addr.add_zero'] at l10
        clear l1
        have hB : SWK (fun x => [.string (sx x), .slice (ax x) (nx x) (cx x)]) 2 w0 blk off dk (wr.alloc (.cells #[.string (sx d[k2]!), .slice (ax d[k2]!) (nx d[k2]!) (cx d[k2]!)] 53)) := S1.out.alloc _
        have q1 := hB.del2 HC.out (by omega) d[k2]!
        have SB : Aside _ := hB
        clear hB
        obtain ⟨y, hy⟩ : ∃ y, d[k2]! = y := ⟨_, rfl⟩
        have B : Hid (d[k2]! = y) := hy
        rw [hy] at l10 l11 q1 SB
        clear hy
        have b0 : (wr.alloc (.cells #[.string (sx y), .slice (ax y) (nx y) (cx y)] 53)).cell? ⟨wr.heap.size, 0, none⟩ = some (.string (sx y)) := by simp
        have b1 : (wr.alloc (.cells #[.string (sx y), .slice (ax y) (nx y) (cx y)] 53)).cell? ⟨wr.heap.size, 1, none⟩ = some (.slice (ax y) (nx y) (cx y)) := by simp
        have bs : wr.heap.size < (wr.alloc (.cells #[.string (sx y), .slice (ax y) (nx y) (cx y)] 53)).heap.size := by simp
        cases hq : pf y with
        | true =>
          rw [hq] at q1
          go_wp2_with (go_at_fn g; refine q1.mono ?_; rintro e w' ⟨rfl, hS, _⟩)
          go_roundg (d.size - (k2 + 1))
          case measure => omega
          case rel => exact ⟨k1, k2 + 1, dk, rfl, by go_num, by omega, by omega, by omega, hS, I1.out.skip (by rw [B.out, hq]; rfl)⟩
        | false =>
          rw [hq] at q1
          go_wp2_with (go_at_fn g; refine q1.mono ?_; rintro e w' ⟨rfl, hS, q, os', hw'⟩; have S2 : Aside _ := hS; have c0 := ((congrArg (fun W => World.cell? W ⟨wr.heap.size, 0, none⟩) hw').trans (cell?_grow _ os' ⟨wr.heap.size, 0, none⟩ bs)).trans b0; have c1 := ((congrArg (fun W => World.cell? W ⟨wr.heap.size, 1, none⟩) hw').trans (cell?_grow _ os' ⟨wr.heap.size, 1, none⟩ bs)).trans b1; have hh := hS.holds R.hblk R.hH hdk'; have r0 : w'.cell? ⟨blk, off + k1 * 2, none⟩ = some (.string (sx dk[k1]!)) := HoldsK.cells hh R.hk (i := k1) (by omega) 0 _ rfl; have r1 : w'.cell? ⟨blk, off + k1 * 2 + 1, none⟩ = some (.slice (ax dk[k1]!) (nx dk[k1]!) (cx dk[k1]!)) := HoldsK.cells hh R.hk (i := k1) (by omega) 1 _ rfl; have f0 : w'.frozen? ⟨blk, off + k1 * 2, none⟩ = false := (hh (k1 * 2) (by rw [size_flatK]; omega)).2; have f1 : w'.frozen? ⟨blk, off + k1 * 2 + 1, none⟩ = false := (hh (k1 * 2 + 1) (by rw [size_flatK]; omega)).2; clear hw' hh hS)
          go_roundg (d.size - (k2 + 1))
          case measure => omega
          case rel => exact ⟨k1 + 1, k2 + 1, dk.setIfInBounds k1 d[k2]!, by go_num, by go_num, by omega, by omega, by omega, (by rw [B.out]; exact swk_set S2.out R.hk R.hblk k1 (by omega) y), I1.out.keep (by omega) (by rw [B.out, hq]; rfl)⟩
      · have hltz : ¬ (k2 : Int) < (d.size : Int) := by omega
        obtain rfl : k2 = d.size := by omega
        have hds : dk.size = d.size := I1.out.size
        have hz : (Value.agg #[.string (sx zr), .slice (ax zr) (nx zr) (cx zr)]).cells.toList = [.string (sx zr), .slice (ax zr) (nx zr) (cx zr)] := by rfl
        have hin : ∀ j, j < (d.size - k1) * 2 → k1 * 2 + j < (flatK (fun x => [Value.string (sx x), Value.slice (ax x) (nx x) (cx x)]) 2 dk).size := fun j hj => by rw [size_flatK, hds]; omega
        have hcl : ∀ ty, (Builtin.clear_ #[46] ty #[.slice (some ⟨blk, off + k1 * 2, none⟩) (d.size - k1) (cap - k1)]).run P wr = .ok (.tuple #[]) (wr.setCells blk (off + k1 * 2) (List.replicate (d.size - k1) [Value.string (sx zr), Value.slice (ax zr) (nx zr) (cx zr)]).flatten) :=
          fun ty => run_clear_k wr _ _ ty _ _ tS vE hz (R.h1 zr) blk (off + k1 * 2) _ _ (by omega) (fun j hj => by
            have := (S1.out.holds R.hblk R.hH (by omega)) (k1 * 2 + j) (hin j hj)
            rw [← Nat.add_assoc] at this
            rw [this.1]; rfl) (fun j hj => by
            have := (S1.out.holds R.hblk R.hH (by omega)) (k1 * 2 + j) (hin j hj)
            rw [← Nat.add_assoc] at this
            exact this.2)
        go_wp2
        go_ret
        have hI := I1.out
        refine ⟨by rw [hI.len]; rfl, ?_⟩
        rw [hI.len]
        exact swk_kept S1.out R.hk R.hblk hI zr
end Go.Proofs.Ytghommaokdhjmaa.SortF
/- Rows of elements of k cells as lists: the flat list of the cells; an own row, an argument's row, and the words of a walk on arrays. -/
set_option linter.unusedVariables false
set_option linter.unusedSimpArgs false
namespace Go.Proofs.SymP
open Go.Shelf Go.RowKit Go.Lib Go.Sort Go.Proofs.YtghommaokdhjmaaW.PrintWords
variable {P : Program} {α : Type} {enc : α → List Value} {k : Nat} {W : World}

theorem flat_get (hk : ∀ x, (enc x).length = k) (h0 : 0 < k) : ∀ (l : List α) (j : Nat), (l.flatMap enc)[j]? = (l[j / k]?).bind fun x => (enc x)[j % k]?
  | [], j => by simp
  | x :: l, j => by
    rw [List.flatMap_cons]
    rcases Nat.lt_or_ge j k with h | h
    · rw [List.getElem?_append_left (by rw [hk]; exact h), Nat.div_eq_of_lt h, Nat.mod_eq_of_lt h]; rfl
    · obtain ⟨i, rfl⟩ : ∃ i, j = i + k := ⟨j - k, by omega⟩
      rw [List.getElem?_append_right (by rw [hk]; exact h), hk, Nat.add_sub_cancel, flat_get hk h0 l i, Nat.add_div_right _ h0, Nat.add_mod_right, List.getElem?_cons_succ]
theorem flat_len (hk : ∀ x, (enc x).length = k) (l : List α) : (l.flatMap enc).length = l.length * k := by
  rw [List.length_flatMap]
  induction l with
  | nil => simp
  | cons x l ih => rw [List.map_cons, List.sum_cons, ih, hk, List.length_cons, Nat.add_mul, Nat.one_mul, Nat.add_comm]
theorem flat_at (hk : ∀ x, (enc x).length = k) : ∀ (l : List α) (j : Nat) (p : α), l[j]? = some p → ((l.flatMap enc).drop (j * k)).take k = enc p
  | [], j, p, h => by simp at h
  | x :: l, 0, p, h => by
    obtain rfl : x = p := by simpa using h
    rw [List.flatMap_cons, Nat.zero_mul, List.drop_zero]
    exact List.take_left' (hk _)
  | x :: l, j + 1, p, h => by
    rw [List.flatMap_cons, Nat.add_mul, Nat.one_mul, Nat.add_comm, ← List.drop_drop, List.drop_left' (hk _)]
    exact flat_at hk l j p (by simpa using h)

/-- An argument's row, read: its cells. -/
theorem C_flat {kd : Kd α} (hK : ∀ {w x cs}, kd.K w x cs → cs = enc x) (hk : ∀ x, (enc x).length = k) (h0 : 0 < k) (hs : kd.sz = k) {A : Option Addr} {l : List α} (h : Kd.C kd W A l.length l) (hl : 0 < l.length) :
    ∃ ad, A = some ad ∧ ∀ j u, (l.flatMap enc)[j]? = some u → W.cell? (ad.add j) = some u := by
  obtain ⟨ad, e, hc⟩ := h.2.2 hl
  refine ⟨ad, e, fun j u hu => ?_⟩
  rw [flat_get hk h0] at hu
  cases hp : l[j / k]? with
  | none => rw [hp] at hu; simp at hu
  | some p =>
    rw [hp] at hu
    obtain ⟨c, _, hr, hcell⟩ := hc _ _ hp
    obtain rfl := hK hr
    have := hcell (j % k) u hu
    rwa [hs, Nat.div_add_mod'] at this
/-- A row of one's own, told. -/
theorem R_flat {kd : Kd α} (hM : ∀ {w base ok x}, kd.M w base ok x (enc x)) (hk : ∀ x, (enc x).length = k) (hs : kd.sz = k) {e : TypeId} {base : Nat} {v : Value} {l : List α} (h : W.ownsRow base e k v l.length (l.flatMap enc)) :
    Kd.R kd e W base (fun _ => True) v l := by
  subst hs
  exact ⟨fun _ _ => trivial, l.flatMap enc, h, flat_len hk l, fun j p hj => by rw [flat_at hk l j p hj]; exact hM⟩

/-- An own row grown by an argument's. -/
theorem append_C {kd : Kd α} (hK : ∀ {w x cs}, kd.K w x cs → cs = enc x) (hk : ∀ x, (enc x).length = k) (h0 : 0 < k) (hs : kd.sz = k) (ho : ∀ x, ∀ u ∈ enc x, u.oneCell' = true)
    (base : Nat) (t e : TypeId) (i : TypeInfo) (z : Value) (ht : P.underlying t = some (.slice e)) (hi : P.info? e = some i) (hz : i.zero = some z) (hsize : i.size = k) (hzs : z.cells.size = k)
    (v : Value) (l : List α) (hown : W.ownsRow base e k v l.length (l.flatMap enc)) (A : Option Addr) (m : List α) (c : Nat) (hC : Kd.C kd W A m.length m) (hA : A = none → c = 0 ∨ True)
    (hbytes : (l.length + m.length) * i.bytes ≤ 140737488355328) (h63 : l.length + m.length ≤ 1073741824) (hbase : base ≤ W.heap.size) :
    ∃ v' w', (∀ ty, (Builtin.append_ #[t, t] ty #[v, .slice A m.length c]).run P W = .ok v' w') ∧ w'.ownsRow base e k v' (l ++ m).length ((l ++ m).flatMap enc) ∧ W.grownBy w' v.ownBlock ∧ (v' = .slice none 0 0 ↔ v = .slice none 0 0 ∧ m.length = 0) := by
  rw [List.length_append, List.flatMap_append]
  by_cases hm : 0 < m.length
  · obtain ⟨ad, rfl, hc⟩ := C_flat hK hk h0 hs hC hm
    obtain ⟨v', w', h1, h2, h3, h4⟩ := run_append_own (P := P) W base t 0 e i z k i.bytes ht hi hz hsize rfl hzs h0 v l.length _ hown ad m.length c (m.flatMap enc) (flat_len hk m) hc
      (fun u hu => by obtain ⟨x, _, hx⟩ := List.mem_flatMap.1 hu; exact ho x u hx) (by unfold maxLen; omega) hbytes hbase
    exact ⟨v', w', fun ty => h1, h2, h3, h4⟩
  · have hm0 : m = [] := List.length_eq_zero_iff.1 (by omega)
    subst hm0
    refine ⟨v, W, fun ty => ?_, by simpa using hown, ⟨rfl, rfl, rfl, Nat.le_refl _, fun _ _ _ => rfl⟩, by simp⟩
    have hsl : ∃ b n cc, v = .slice b n cc ∧ n ≤ cc := by
      rcases hown.2 with ⟨rfl, _⟩ | ⟨g, cap, cur, rfl, _, _, hh, _⟩
      · exact ⟨_, _, _, rfl, Nat.le_refl _⟩
      · exact ⟨_, _, _, rfl, hh⟩
    obtain ⟨b, n, cc, rfl, hn⟩ := hsl
    refine run_append_nothing (P := P) W t t ty e i ht hi b n cc hn _ ?_
    cases A with
    | none => exact Src.ofNil W ht c
    | some ad => exact Src.ofSlice W ht ad 0 c [] (by simp) (fun j u h => by simp at h) (fun u h => by simp at h)

section
variable [Inhabited α]
theorem flat_of_take {cur : Array Value} {l : List α} (hk : ∀ x, (enc x).length = k) (h0 : 0 < k) (hle : l.length * k ≤ cur.size) (h : cur.toList.take (l.length * k) = l.flatMap enc) : Flat enc k cur l.toArray := by
  refine ⟨by simpa using hle, fun j c hj hc => ?_⟩
  have hj' : j < l.length := by simpa using hj
  have hl := lt_flat hj' hc
  have e1 : (j * k + c) / k = j := (blk_iff k j _ (by omega)).1 ⟨by omega, by omega⟩
  have e2 : (j * k + c) % k = c := by rw [Nat.mod_eq_sub_div_mul, e1]; omega
  have h2 := congrArg (·[j * k + c]?) h
  simp only [List.getElem?_take, hl, if_true, flat_get hk h0, e1, e2] at h2
  rw [← Array.getElem?_toList, h2, List.getElem?_eq_getElem hj']
  simp only [Option.bind_some]
  rw [getElem!_pos l.toArray j hj, List.getElem_toArray, List.getElem?_eq_getElem (by rw [hk]; exact hc), getElem!_pos _ c (by rw [hk]; exact hc)]
theorem take_of_flat {cur : Array Value} {d : Array α} (hk : ∀ x, (enc x).length = k) (h0 : 0 < k) (h : Flat enc k cur d) : cur.toList.take (d.size * k) = d.toList.flatMap enc := by
  apply List.ext_getElem?
  intro t
  rw [List.getElem?_take, flat_get hk h0]
  by_cases ht : t < d.size * k
  · have h1 : t / k < d.size := by rw [Nat.div_lt_iff_lt_mul h0]; exact ht
    have h2 := h.2 (t / k) (t % k) h1 (Nat.mod_lt _ h0)
    rw [Nat.div_add_mod'] at h2
    rw [if_pos ht, Array.getElem?_toList, h2, Array.getElem?_toList, Array.getElem?_eq_getElem h1]
    simp only [Option.bind_some]
    rw [getElem!_pos d _ h1, List.getElem?_eq_getElem (by rw [hk]; exact Nat.mod_lt _ h0), getElem!_pos _ _ (by rw [hk]; exact Nat.mod_lt _ h0)]
  · rw [if_neg ht, Array.getElem?_toList, Array.getElem?_eq_none]
    · rfl
    · rw [Nat.le_div_iff_mul_le h0]; omega
/-- An own row that is there, in the words of a walk on arrays. -/
theorem own_open {e : TypeId} {base g n cap : Nat} {l : List α} (hk : ∀ x, (enc x).length = k) (h0 : 0 < k) (h : W.ownsRow base e k (.slice (some ⟨g, 0, none⟩) n cap) l.length (l.flatMap enc)) :
    n = l.length ∧ base ≤ g ∧ l.length ≤ cap ∧ cap ≤ maxLen ∧ g < W.heap.size ∧ ∃ cur, W.heap[g]? = some (.cells cur e (0, 0)) ∧ cur.size = cap * k ∧ Flat enc k cur l.toArray := by
  rcases h.2 with ⟨h', _⟩ | ⟨g', cap', cur, h', hb, hg, hn, hm, hs, ht⟩
  · simp at h'
  · simp only [Value.slice.injEq, Option.some.injEq, Addr.mk.injEq, and_true, true_and] at h'
    obtain ⟨rfl, rfl, rfl⟩ := h'
    refine ⟨rfl, hb, hn, hm, (Array.getElem?_eq_some_iff.1 hg).1, cur, hg, hs, flat_of_take hk h0 ?_ ht⟩
    rw [hs]; exact Nat.mul_le_mul_right _ hn
/-- .. and back. -/
theorem own_shut {e : TypeId} {base g cap : Nat} {cur : Array Value} {d : Array α} (hk : ∀ x, (enc x).length = k) (h0 : 0 < k) (hg : W.heap[g]? = some (.cells cur e (0, 0))) (hb : base ≤ g) (hs : cur.size = cap * k) (hc : cap ≤ maxLen) (hF : Flat enc k cur d) (l : List α) (hl : l <+: d.toList) (hn : l.length ≤ cap) :
    W.ownsRow base e k (.slice (some ⟨g, 0, none⟩) l.length cap) l.length (l.flatMap enc) := by
  refine ⟨flat_len hk l, .inr ⟨g, cap, cur, rfl, hb, hg, hn, hc, hs, ?_⟩⟩
  obtain ⟨r, hr⟩ := hl
  have h1 := take_of_flat hk h0 hF
  have h2 : l.length * k ≤ d.size * k := Nat.mul_le_mul_right _ (by rw [← Array.length_toList, ← hr]; simp)
  have h3 := congrArg (List.take (l.length * k)) h1
  rw [List.take_take, Nat.min_eq_left h2, ← hr, List.flatMap_append, List.take_left' (flat_len hk l)] at h3
  exact h3
end
end Go.Proofs.SymP
/- Rows of facts, as a sort turns them: an element with its cells, valid in the world where the sort begins; the comparing functions' contracts in a turned row's worlds; back to a row whose elements lie apart. -/
set_option linter.unusedVariables false
set_option linter.unusedSimpArgs false
namespace Go.Proofs.Ytghommaokdhjmaa.Fct
open Go.Shelf Go.RowKit Go.Lib Go.Sort Go.Proofs.SymP Go.Proofs.YtghommaokdhjmaaW.PrintWords Go.Proofs.Ytghommaokdhjmaa.P Go.Proofs.Ytghommaokdhjmaa.Str Go.Proofs.Ytghommaokdhjmaa.CmpF Go.Proofs.Ytghommaokdhjmaa.SortF
/-- An element: its fact, its number, what its cells say. -/
structure FE (w : World) (base : Nat) (ok : Nat → Prop) (f : Nat → Nat) where
  x : S53
  i : Nat
  A : Option Addr
  c : Nat
  fit : x.f1.length ≤ 1000000
  m : (Kd.tag f k53).M w base ok (x, i) [.string x.f0, .slice A x.f1.length c]
section
variable {w W : World} {base : Nat} {ok ok' : Nat → Prop} {f : Nat → Nat}
theorem nilM : (Kd.tag f k53).M w base ok (z53, 0) [.string z53.f0, .slice none z53.f1.length 0] := k53_mkM w base _ z53 (Kd.R_nil _ _ _ _ _)
instance : Inhabited (FE w base ok f) := ⟨⟨z53, 0, none, 0, by decide, nilM⟩⟩
/-- Its cells. -/
def FE.enc (e : FE w base ok f) : List Value := [.string e.x.f0, .slice e.A e.x.f1.length e.c]
theorem enc_len (e : FE w base ok f) : e.enc.length = 2 := rfl
theorem enc_one (e : FE w base ok f) : ∀ v ∈ e.enc, v.oneCell' = true := by
  intro u hu
  simp only [FE.enc, List.mem_cons, List.not_mem_nil, or_false] at hu
  rcases hu with rfl | rfl <;> rfl
/-- A row's cells, element by element. -/
theorem list_of : ∀ (ps : List (S53 × Nat)) (inner : List Value), Reps ((Kd.tag f k53).M w base ok) 2 ps inner → (∀ p ∈ ps, p.1.f1.length ≤ 1000000) →
    ∃ l : List (FE w base ok f), l.map (fun e => (e.x, e.i)) = ps ∧ l.flatMap FE.enc = inner
  | [], inner, h, _ => ⟨[], rfl, by
      have := h.1
      simp at this
      simp [this]⟩
  | p :: ps, inner, h, hf => by
    have hl := h.1
    simp only [List.length_cons, Nat.add_mul, Nat.one_mul] at hl
    have hp := h.2 0 p rfl
    rw [Nat.zero_mul, List.drop_zero] at hp
    have ht : Reps ((Kd.tag f k53).M w base ok) 2 ps (inner.drop 2) := ⟨by rw [List.length_drop, hl]; omega, fun j q hq => by
      have := h.2 (j + 1) q (by simpa using hq)
      rw [List.drop_drop, show 2 + j * 2 = (j + 1) * 2 by omega]
      exact this⟩
    obtain ⟨l, h1, h2⟩ := list_of ps _ ht (fun q hq => hf q (List.mem_cons_of_mem _ hq))
    obtain ⟨v1, hc, hR⟩ := k53_openM (show k53.M w base _ p.1 (inner.take 2) from hp)
    obtain ⟨A, c, rfl⟩ := Kd.R_slice hR
    rw [hc] at hp
    refine ⟨⟨p.1, p.2, A, c, hf p List.mem_cons_self, hp⟩ :: l, by rw [List.map_cons, h1], ?_⟩
    rw [List.flatMap_cons, h2]
    show [Value.string p.1.f0, .slice A p.1.f1.length c] ++ _ = _
    rw [← hc, List.take_append_drop]
/-- What an element's blocks hold, in a later world. -/
theorem FE.at (e : FE w base ok f) (hW : ∀ k, ok k → k < w.heap.size → W.heap[k]? = w.heap[k]?) : (Kd.tag f k53).M W base ok (e.x, e.i) e.enc := Kd.M_step e.m hW
theorem FE.reads (e : FE w base ok f) (hW : ∀ k, ok k → k < w.heap.size → W.heap[k]? = w.heap[k]?) : e.x.f1.length ≤ e.c ∧ Kd.C k24 W e.A e.x.f1.length e.x.f1 := by
  obtain ⟨A1, c1, he, hl, hC⟩ := k53_open ((Kd.tag f k53).K_of_M (e.at hW))
  unfold FE.enc at he
  injection he with _ he
  injection he with he _
  injection he with hA _ hc
  subst hA hc
  exact ⟨hl, hC⟩
/-- Back: such elements, each number once, in a row of one's own. -/
theorem row_S {l : List (FE w base ok f)} {v : Value} (hn : (l.map (·.i)).Nodup) (hW : ∀ k, ok k → k < w.heap.size → W.heap[k]? = w.heap[k]?) (ho : W.ownsRow base 53 2 v l.length (l.flatMap FE.enc))
    (hv : ∀ k, v.ownBlock = some k → ok' k) (hok : ∀ k, ok k → ok' k ∧ some k ≠ v.ownBlock) : Kd.S k53 53 W base ok' v (l.map (·.x)) := by
  have hlen : (l.map (·.x)).zipIdx.length = l.length := by simp
  refine ⟨fun k => (l.map (·.i)).idxOf (f k), hv, l.flatMap FE.enc, by rw [hlen]; exact ho, by rw [flat_len enc_len, hlen]; rfl, fun j p hj => ?_⟩
  rw [List.getElem?_zipIdx, List.getElem?_map] at hj
  cases hl : l[j]? with
  | none => rw [hl] at hj; simp at hj
  | some e =>
    rw [hl] at hj
    simp only [Option.map_some, Nat.zero_add, Option.some.injEq] at hj
    subst hj
    have h2 := flat_at (enc := FE.enc) enc_len l j e hl
    show k53.M W base _ e.x (((l.flatMap FE.enc).drop (j * 2)).take 2)
    rw [h2]
    refine k53.M_mono (fun k hk => ⟨hok k hk.1, ?_⟩) (e.at hW)
    show (l.map (·.i)).idxOf (f k) = j
    rw [show f k = e.i from hk.2]
    have hj2 : j < (l.map (·.i)).length := by rw [List.length_map]; exact (List.getElem?_eq_some_iff.1 hl).1
    have he : (l.map (·.i))[j] = e.i := by
      rw [List.getElem_map]
      exact congrArg (·.i) (List.getElem?_eq_some_iff.1 hl).2
    rw [← he]
    exact hn.idxOf_getElem j hj2
end
/-- Nothing but the row's block turns. -/
theorem swk_away {α : Type} [Inhabited α] {enc : α → List Value} {k : Nat} {w0 W : World} {blk off : Nat} {dk : Array α} (h : SWK enc k w0 blk off dk W) (j : Nat) (hj : j < w0.heap.size) (hne : j ≠ blk) : W.heap[j]? = w0.heap[j]? := by
  obtain ⟨n, os, rfl⟩ := h
  unfold sortWorldK putRowK putRow mapBlock grow
  simp only []
  rw [Array.getElem?_append_left (by simp; show j < w0.heap.size; omega), Array.getElem?_modify, if_neg (by omega)]
  rfl
/-- How two elements compare. -/
def cfE {w : World} {base : Nat} {ok : Nat → Prop} {f : Nat → Nat} (a b : FE w base ok f) : Int := factCmp a.x.f0 a.x.f1 b.x.f0 b.x.f1
theorem cmpE {w : World} {base blk off size : Nat} {ok : Nat → Prop} {f : Nat → Nat} (hne : ∀ k, ok k → k ≠ blk) : CmpLays Try.prog 48 #[] (FE.enc (w := w) (base := base) (ok := ok) (f := f)) 2 cfE blk off size w := fun m os dk hdk a b => by
  have hW : ∀ k, ok k → k < w.heap.size → (sortWorldK FE.enc 2 w blk off m dk os).heap[k]? = w.heap[k]? := fun k hk hlt => swk_away (dk := dk) ⟨m, os, rfl⟩ k hlt (hne k hk)
  obtain ⟨ha, hA⟩ := a.reads hW
  obtain ⟨hb, hB⟩ := b.reads hW
  exact fact_Compare.grown a.x.f0 a.A a.c a.x.f1 b.x.f0 b.A b.c b.x.f1 _ _ hA ha hB hb (by unfold fact_Compare.f; rw [if_pos ⟨a.fit, b.fit⟩]; rfl)
set_option maxHeartbeats 4000000 in
set_option maxRecDepth 1000000 in
theorem clos2 (x : ByteArray) (A0 : Option Addr) (c0 : Nat) (l0 : List S24) (y : ByteArray) (A1 : Option Addr) (c1 : Nat) (l1 : List S24) (w : World) (hr0 : Kd.C k24 w A0 l0.length l0) (hc0 : l0.length ≤ c0) (hr1 : Kd.C k24 w A1 l1.length l1) (hc1 : l1.length ≤ c1) (hl : l0.length ≤ 1000000 ∧ l1.length ≤ 1000000) :
    Calls Try.prog 97 #[.agg #[.string x, .slice A0 l0.length c0], .agg #[.string y, .slice A1 l1.length c1]] w fun e w' => e = .returned (.bool (factCmp x l0 y l1 == 0)) ∧ Gr w w' := by
  have hu := Try.underlying53
  have hcon := fact_Compare.grown x A0 c0 l0 y A1 c1 l1 _ ((w.alloc (.cells #[.string x, .slice A0 l0.length c0] 53)).alloc (.cells #[.string y, .slice A1 l1.length c1] 53)) (Kd.C_alloc (Kd.C_alloc hr0 _) _) hc0 (Kd.C_alloc (Kd.C_alloc hr1 _) _) hc1 (by unfold fact_Compare.f; rw [if_pos hl])
  have eg : ∀ args w, (callFunc 48 args).run Try.prog w = .ok (.enter 48 args) w := enters_of Try.func48 (by kernel_rfl) rfl
  generalize factCmp x l0 y l1 = q at hcon ⊢
  clear hr0 hr1 hc0 hc1 hl
  generalize l0.length = n0 at hcon ⊢
  generalize l1.length = n1 at hcon ⊢
  go_enter Try.func97, Try.ntmps97
  go_wp2_with (go_at_fn 48; with_reducible refine hcon.mono ?_; rintro e w1 ⟨rfl, hb⟩)
  go_ret
  exact ⟨rfl, (((Gr.refl w).alloc _).alloc _).trans hb⟩
theorem eqE {w : World} {base blk off size : Nat} {ok : Nat → Prop} {f : Nat → Nat} (hne : ∀ k, ok k → k ≠ blk) : EqLays Try.prog 97 #[] (FE.enc (w := w) (base := base) (ok := ok) (f := f)) 2 (fun a b => cfE a b == 0) blk off size w := fun m os dk hdk a b => by
  have hW : ∀ k, ok k → k < w.heap.size → (sortWorldK FE.enc 2 w blk off m dk os).heap[k]? = w.heap[k]? := fun k hk hlt => swk_away (dk := dk) ⟨m, os, rfl⟩ k hlt (hne k hk)
  obtain ⟨ha, hA⟩ := a.reads hW
  obtain ⟨hb, hB⟩ := b.reads hW
  exact clos2 a.x.f0 a.A a.c a.x.f1 b.x.f0 b.A b.c b.x.f1 _ hA ha hB hb ⟨a.fit, b.fit⟩
set_option maxHeartbeats 4000000 in
set_option maxRecDepth 1000000 in
theorem closDrop (x : ByteArray) (A0 : Option Addr) (c0 : Nat) (l0 : List S24) (y : ByteArray) (A1 : Option Addr) (c1 : Nat) (l1 : List S24) (g : Nat) (w : World) (hg0 : w.cell? ⟨g, 0, none⟩ = some (.string y)) (hg1 : w.cell? ⟨g, 1, none⟩ = some (.slice A1 l1.length c1)) (hr0 : Kd.C k24 w A0 l0.length l0) (hc0 : l0.length ≤ c0) (hr1 : Kd.C k24 w A1 l1.length l1) (hc1 : l1.length ≤ c1) (hl : l0.length ≤ 1000000 ∧ l1.length ≤ 1000000) :
    Calls Try.prog 76 #[.agg #[.string x, .slice A0 l0.length c0], .pointer (some ⟨g, 0, none⟩)] w fun e w' => e = .returned (.bool (factCmp x l0 y l1 == 0)) ∧ Gr w w' := by
  have hu := Try.underlying53
  have hcon := fact_Compare.grown x A0 c0 l0 y A1 c1 l1 _ (w.alloc (.cells #[.string x, .slice A0 l0.length c0] 53)) (Kd.C_alloc hr0 _) hc0 (Kd.C_alloc hr1 _) hc1 (by unfold fact_Compare.f; rw [if_pos hl])
  have eg : ∀ args w, (callFunc 48 args).run Try.prog w = .ok (.enter 48 args) w := enters_of Try.func48 (by kernel_rfl) rfl
  generalize factCmp x l0 y l1 = q at hcon ⊢
  clear hr0 hr1 hc0 hc1 hl
  generalize l0.length = n0 at hcon ⊢
  generalize l1.length = n1 at hcon hg1
  have hb := (Go.RowKit.Below.refl w.heap.size w).alloc (Nat.le_refl _) (.cells #[.string x, .slice A0 n0 c0] 53)
  have z0 := (hb.cell (World.block_lt_of_cell? w _ hg0)).trans hg0
  have z1 := (hb.cell (World.block_lt_of_cell? w _ hg1)).trans hg1
  clear hb hg0 hg1
  go_enter Try.func76, Try.ntmps76
  go_wp2_with (go_at_fn 48; with_reducible refine hcon.mono ?_; rintro e w1 ⟨rfl, hb⟩)
  go_ret
  exact ⟨rfl, ((Gr.refl w).alloc _).trans hb⟩
set_option maxHeartbeats 4000000 in
set_option maxRecDepth 1000000 in
theorem closHas (x : ByteArray) (A0 : Option Addr) (c0 : Nat) (l0 : List S24) (y : ByteArray) (A1 : Option Addr) (c1 : Nat) (l1 : List S24) (g : Nat) (w : World) (hg0 : w.cell? ⟨g, 0, none⟩ = some (.string y)) (hg1 : w.cell? ⟨g, 1, none⟩ = some (.slice A1 l1.length c1)) (hr0 : Kd.C k24 w A0 l0.length l0) (hc0 : l0.length ≤ c0) (hr1 : Kd.C k24 w A1 l1.length l1) (hc1 : l1.length ≤ c1) (hl : l0.length ≤ 1000000 ∧ l1.length ≤ 1000000) :
    Calls Try.prog 72 #[.agg #[.string x, .slice A0 l0.length c0], .pointer (some ⟨g, 0, none⟩)] w fun e w' => e = .returned (.bool (factCmp x l0 y l1 == 0)) ∧ Gr w w' := by
  have hu := Try.underlying53
  have hcon := fact_Compare.grown x A0 c0 l0 y A1 c1 l1 _ (w.alloc (.cells #[.string x, .slice A0 l0.length c0] 53)) (Kd.C_alloc hr0 _) hc0 (Kd.C_alloc hr1 _) hc1 (by unfold fact_Compare.f; rw [if_pos hl])
  have eg : ∀ args w, (callFunc 48 args).run Try.prog w = .ok (.enter 48 args) w := enters_of Try.func48 (by kernel_rfl) rfl
  generalize factCmp x l0 y l1 = q at hcon ⊢
  clear hr0 hr1 hc0 hc1 hl
  generalize l0.length = n0 at hcon ⊢
  generalize l1.length = n1 at hcon hg1
  have hb := (Go.RowKit.Below.refl w.heap.size w).alloc (Nat.le_refl _) (.cells #[.string x, .slice A0 n0 c0] 53)
  have z0 := (hb.cell (World.block_lt_of_cell? w _ hg0)).trans hg0
  have z1 := (hb.cell (World.block_lt_of_cell? w _ hg1)).trans hg1
  clear hb hg0 hg1
  go_enter Try.func72, Try.ntmps72
  go_wp2_with (go_at_fn 48; with_reducible refine hcon.mono ?_; rintro e w1 ⟨rfl, hb⟩)
  go_ret
  exact ⟨rfl, ((Gr.refl w).alloc _).trans hb⟩
end Go.Proofs.Ytghommaokdhjmaa.Fct
/- The order of two texts: an order in which what compares 0 is the same. -/
set_option linter.unusedVariables false
set_option linter.unusedSimpArgs false
namespace Go.Proofs.Ytghommaokdhjmaa.Str
open Go.Lib
theorem cb_zero : ∀ (a b : List UInt8), compareBytes a b = 0 ↔ a = b := by
  intro a
  induction a with
  | nil => intro b; cases b <;> simp [compareBytes]
  | cons x a ih =>
    intro b
    cases b with
    | nil => simp [compareBytes]
    | cons y b =>
      simp only [compareBytes]
      by_cases h1 : x < y
      · have : x ≠ y := fun e => by subst e; exact UInt8.lt_irrefl _ h1
        simp [h1, this]
      · by_cases h2 : y < x
        · have : x ≠ y := fun e => by subst e; exact UInt8.lt_irrefl _ h2
          simp [h1, h2, this]
        · have e : x = y := by
            apply UInt8.toNat_inj.1
            have h3 : ¬ x.toNat < y.toNat := h1
            have h4 : ¬ y.toNat < x.toNat := h2
            omega
          simp [h1, h2, e, ih b]
theorem cb_le : ∀ (a b c : List UInt8), compareBytes a b ≤ 0 → compareBytes b c ≤ 0 → compareBytes a c ≤ 0 := by
  intro a
  induction a with
  | nil => intro b c _ _; cases c <;> simp [compareBytes]
  | cons x a ih =>
    intro b c h1 h2
    cases b with
    | nil => simp [compareBytes] at h1
    | cons y b =>
      cases c with
      | nil => simp [compareBytes] at h2
      | cons z c =>
        simp only [compareBytes] at h1 h2 ⊢
        have lt : ∀ p q : UInt8, p < q ↔ p.toNat < q.toNat := fun p q => Iff.rfl
        simp only [lt] at h1 h2 ⊢
        split at h1
        · split at h2
          · rw [if_pos (by omega)]; omega
          · split at h2
            · omega
            · rw [if_pos (by omega)]; omega
        · split at h1
          · omega
          · split at h2
            · rw [if_pos (by omega)]; omega
            · split at h2
              · omega
              · rw [if_neg (by omega), if_neg (by omega)]
                exact ih b c h1 h2
theorem cmpS_zero (a b : ByteArray) : cmpS a b = 0 ↔ a = b := by
  unfold cmpS
  rw [cb_zero, Array.toList_inj]
  constructor
  · intro h; cases a; cases b; simp at h; rw [h]
  · intro h; rw [h]
theorem cmpS_swap (a b : ByteArray) : cmpS a b = - cmpS b a := compareBytes_swap _ _
theorem cmpS_le (a b c : ByteArray) (h1 : cmpS a b ≤ 0) (h2 : cmpS b c ≤ 0) : cmpS a c ≤ 0 := cb_le _ _ _ h1 h2
theorem cmpS_self (a : ByteArray) : cmpS a a = 0 := (cmpS_zero a a).2 rfl
theorem cmpS_lt {a b c : ByteArray} (h1 : cmpS a b < 0) (h2 : cmpS b c < 0) : cmpS a c < 0 := by
  have h3 := cmpS_le a b c (by omega) (by omega)
  rcases Int.lt_or_eq_of_le h3 with h | h
  · exact h
  · have e := (cmpS_zero a c).1 h
    subst e
    have := cmpS_swap a b
    omega
end Go.Proofs.Ytghommaokdhjmaa.Str
/- The order of facts, as a plain law: it is an order in which what compares 0 is the same; sorted lists, each once. -/
set_option linter.unusedVariables false
set_option linter.unusedSimpArgs false
namespace Go.Proofs.Ytghommaokdhjmaa.Fct
open Go.Lib Go.Shelf Go.Sort Go.Proofs.Ytghommaokdhjmaa.P Go.Proofs.Ytghommaokdhjmaa.Str Go.Proofs.Ytghommaokdhjmaa.CmpF
structure Ord3 {α : Type} (c : α → α → Int) : Prop where
  swap : ∀ x y, c x y = - c y x
  le : ∀ x y z, c x y ≤ 0 → c y z ≤ 0 → c x z ≤ 0
  zero : ∀ x y, c x y = 0 → x = y
section
variable {α β γ : Type} {c : α → α → Int}
theorem Ord3.self (h : Ord3 c) (x : α) : c x x = 0 := by have := h.swap x x; omega
theorem Ord3.lt (h : Ord3 c) {x y z : α} (h1 : c x y < 0) (h2 : c y z ≤ 0) : c x z < 0 := by
  have h3 := h.le x y z (by omega) h2
  by_cases e : c x z = 0
  · obtain rfl := h.zero x z e
    have := h.swap x y
    omega
  · omega
theorem Ord3.lt' (h : Ord3 c) {x y z : α} (h1 : c x y ≤ 0) (h2 : c y z < 0) : c x z < 0 := by
  have h3 := h.le x y z h1 (by omega)
  by_cases e : c x z = 0
  · obtain rfl := h.zero x z e
    have := h.swap x y
    omega
  · omega
theorem Ord3.lex {d1 : β → β → Int} {d2 : γ → γ → Int} (h1 : Ord3 d1) (h2 : Ord3 d2) (p : α → β) (q : α → γ) (inj : ∀ x y, p x = p y → q x = q y → x = y) :
    Ord3 (fun x y => if d1 (p x) (p y) ≠ 0 then d1 (p x) (p y) else d2 (q x) (q y)) where
  swap x y := by
    have a := h1.swap (p x) (p y)
    have b := h2.swap (q x) (q y)
    by_cases e : d1 (p x) (p y) = 0
    · have e2 : d1 (p y) (p x) = 0 := by omega
      simp [e, e2, b]
    · have e2 : d1 (p y) (p x) ≠ 0 := by omega
      simp only [ne_eq, e, e2, not_false_eq_true, if_true]
      omega
  le x y z := by
    intro hxy hyz
    by_cases e : d1 (p x) (p y) = 0
    · have e1 := h1.zero _ _ e
      simp only [e, ne_eq, not_true, if_false] at hxy
      rw [e1]
      by_cases e2 : d1 (p y) (p z) = 0
      · simp only [e2, ne_eq, not_true, if_false] at hyz ⊢
        exact h2.le _ _ _ hxy hyz
      · simp only [e2, ne_eq, not_false_eq_true, if_true] at hyz ⊢
        exact hyz
    · simp only [e, ne_eq, not_false_eq_true, if_true] at hxy
      by_cases e2 : d1 (p y) (p z) = 0
      · have e3 := h1.zero _ _ e2
        rw [← e3]
        simp only [e, ne_eq, not_false_eq_true, if_true]
        exact hxy
      · simp only [e2, ne_eq, not_false_eq_true, if_true] at hyz
        have := h1.lt (x := p x) (y := p y) (z := p z) (by omega) hyz
        have e4 : d1 (p x) (p z) ≠ 0 := by omega
        simp only [e4, ne_eq, not_false_eq_true, if_true]
        omega
  zero x y := by
    intro h
    by_cases e : d1 (p x) (p y) = 0
    · simp only [e, ne_eq, not_true, if_false] at h
      exact inj x y (h1.zero _ _ e) (h2.zero _ _ h)
    · simp [e] at h
theorem ordS : Ord3 cmpS := ⟨cmpS_swap, cmpS_le, fun x y h => (cmpS_zero x y).1 h⟩
theorem ordI3 : Ord3 ordI where
  swap x y := by unfold ordI; split <;> split <;> (try split) <;> (try split) <;> omega
  le x y z := by unfold ordI; intro h1 h2; split at h1 <;> split at h2 <;> split <;> (try split) <;> (try split at h1) <;> (try split at h2) <;> omega
  zero x y := by unfold ordI; intro h; split at h <;> (try split at h) <;> omega
end
section
variable {α : Type} {c : α → α → Int}
theorem swo_of {β : Type} (h : Ord3 c) (g : β → α) : SWO (ltOf fun a b => c (g a) (g b)) where
  irrefl x := decide_eq_false (by show ¬ c (g x) (g x) < 0; rw [h.self]; omega)
  trans x y z h1 h2 := decide_eq_true (h.lt (of_decide_eq_true h1) (Int.le_of_lt (of_decide_eq_true h2)))
  ntrans x y z h1 h2 := by
    have h1 : ¬ c (g x) (g y) < 0 := of_decide_eq_false h1
    have h2 : ¬ c (g y) (g z) < 0 := of_decide_eq_false h2
    have a1 := h.swap (g x) (g y)
    have a2 := h.swap (g y) (g z)
    have a3 := h.swap (g x) (g z)
    have := h.le (g z) (g y) (g x) (by omega) (by omega)
    exact decide_eq_false (by show ¬ c (g x) (g z) < 0; omega)
/-- Two strictly rising lists with the same members are one. -/
theorem strict_one (h : Ord3 c) : ∀ (l m : List α), l.Pairwise (fun x y => c x y < 0) → m.Pairwise (fun x y => c x y < 0) → (∀ x, x ∈ l ↔ x ∈ m) → l = m
  | [], [], _, _, _ => rfl
  | [], y :: m, _, _, hm => absurd ((hm y).2 List.mem_cons_self) (by simp)
  | x :: l, [], _, _, hm => absurd ((hm x).1 List.mem_cons_self) (by simp)
  | x :: l, y :: m, hl, hm, hx => by
    have hl' := List.pairwise_cons.1 hl
    have hm' := List.pairwise_cons.1 hm
    have e : x = y := by
      rcases List.mem_cons.1 ((hx x).1 List.mem_cons_self) with e | e
      · exact e
      · rcases List.mem_cons.1 ((hx y).2 List.mem_cons_self) with e2 | e2
        · exact e2.symm
        · have a := hm'.1 x e
          have b := hl'.1 y e2
          have := h.swap x y
          omega
    subst e
    congr 1
    refine strict_one h l m hl'.2 hm'.2 (fun z => ⟨fun hz => ?_, fun hz => ?_⟩)
    · rcases List.mem_cons.1 ((hx z).1 (List.mem_cons_of_mem _ hz)) with e | e
      · have := hl'.1 z hz
        rw [e, h.self] at this
        omega
      · exact e
    · rcases List.mem_cons.1 ((hx z).2 (List.mem_cons_of_mem _ hz)) with e | e
      · have := hm'.1 z hz
        rw [e, h.self] at this
        omega
      · exact e
/-- One put into a strictly rising list. -/
def insO (c : α → α → Int) (x : α) : List α → List α
  | [] => [x]
  | y :: l => if c x y < 0 then x :: y :: l else if c x y = 0 then y :: l else y :: insO c x l
/-- The members of a list, each once, rising. -/
def setO (c : α → α → Int) (l : List α) : List α := l.foldr (insO c) []
theorem insO_mem (h : Ord3 c) (x z : α) : ∀ l, z ∈ insO c x l ↔ z = x ∨ z ∈ l
  | [] => by simp [insO]
  | y :: l => by
    unfold insO
    split
    · simp
    · split
      · rename_i e
        obtain rfl := h.zero x y e
        simp
      · rw [List.mem_cons, insO_mem h x z l, List.mem_cons]
        constructor <;> (intro hh; rcases hh with a | a | a <;> simp [a])
theorem insO_up (h : Ord3 c) (x : α) : ∀ l : List α, l.Pairwise (fun x y => c x y < 0) → (insO c x l).Pairwise (fun x y => c x y < 0)
  | [], _ => List.pairwise_singleton _ _
  | y :: l, hl => by
    have hl' := List.pairwise_cons.1 hl
    unfold insO
    split
    · rename_i h1
      exact List.pairwise_cons.2 ⟨fun z hz => by
        rcases List.mem_cons.1 hz with rfl | hz
        · exact h1
        · exact h.lt h1 (Int.le_of_lt (hl'.1 z hz)), hl⟩
    · split
      · exact hl
      · refine List.pairwise_cons.2 ⟨fun z hz => ?_, insO_up h x l hl'.2⟩
        rcases (insO_mem h x z l).1 hz with rfl | hz
        · have := h.swap z y
          omega
        · exact hl'.1 z hz
theorem setO_up (h : Ord3 c) : ∀ l : List α, (setO c l).Pairwise (fun x y => c x y < 0)
  | [] => List.Pairwise.nil
  | x :: l => insO_up h x _ (setO_up h l)
theorem setO_mem (h : Ord3 c) (z : α) : ∀ l : List α, z ∈ setO c l ↔ z ∈ l
  | [] => Iff.rfl
  | x :: l => by
    show z ∈ insO c x (setO c l) ↔ _
    rw [insO_mem h, setO_mem h z l, List.mem_cons]
theorem insO_len (x : α) : ∀ l : List α, (insO c x l).length ≤ l.length + 1
  | [] => Nat.le_refl _
  | y :: l => by
    unfold insO
    split
    · exact Nat.le_refl _
    · split
      · exact Nat.le_succ _
      · simpa using insO_len x l
theorem setO_len : ∀ l : List α, (setO c l).length ≤ l.length
  | [] => Nat.le_refl _
  | x :: l => Nat.le_trans (insO_len x _) (Nat.succ_le_succ (setO_len l))
theorem setO_one (h : Ord3 c) {l r : List α} (h1 : r.Pairwise (fun x y => c x y < 0)) (h2 : ∀ x, x ∈ r ↔ x ∈ l) : r = setO c l :=
  strict_one h _ _ h1 (setO_up h l) (fun x => (h2 x).trans (setO_mem h x l).symm)
/-- What is kept of a sorted row, each place that is unlike the one ahead of it: strictly rising, with the same members. -/
theorem kept_up [Inhabited α] (h : Ord3 c) (d : Array α) (ef : Nat → Bool) (hk : ∀ j, j < d.size → (ef j = true ↔ j = 0 ∨ c d[j]! d[j - 1]! ≠ 0)) (hs : ∀ i j, i < j → j < d.size → c d[i]! d[j]! ≤ 0) :
    (keptUpTo ef d d.size).Pairwise (fun x y => c x y < 0) ∧ ∀ x, x ∈ keptUpTo ef d d.size ↔ x ∈ d.toList := by
  unfold keptUpTo
  refine ⟨List.pairwise_map.2 ?_, fun x => ⟨fun hx => ?_, fun hx => ?_⟩⟩
  · refine (List.Pairwise.and_mem.1 (List.Pairwise.filter _ List.pairwise_lt_range)).imp ?_
    rintro i j ⟨hi, hj, hij⟩
    obtain ⟨hj1, hj2⟩ := List.mem_filter.1 hj
    have hjd := List.mem_range.1 hj1
    have h3 := (hk j hjd).1 hj2
    have h4 : c d[j]! d[j - 1]! ≠ 0 := by
      rcases h3 with h3 | h3
      · omega
      · exact h3
    have h5 : c d[j - 1]! d[j]! < 0 := by
      have a := hs (j - 1) j (by omega) hjd
      have b := h.swap d[j]! d[j - 1]!
      omega
    by_cases e : i = j - 1
    · rw [e]; exact h5
    · exact h.lt' (hs i (j - 1) (by omega) (by omega)) h5
  · obtain ⟨j, hj, rfl⟩ := List.mem_map.1 hx
    have := List.mem_range.1 (List.mem_filter.1 hj).1
    rw [getElem!_pos d j this]
    exact Array.mem_toList_iff.2 (Array.getElem_mem _)
  · obtain ⟨j, hj, rfl⟩ := List.getElem_of_mem hx
    have hj' : j < d.size := by simpa using hj
    rw [Array.getElem_toList, ← getElem!_pos d j hj']
    clear hx hj
    revert hj'
    induction j with
    | zero => exact fun hj' => List.mem_map.2 ⟨0, List.mem_filter.2 ⟨List.mem_range.2 hj', (hk 0 hj').2 (.inl rfl)⟩, rfl⟩
    | succ j ih =>
      intro hj'
      by_cases e : c d[j + 1]! d[j]! = 0
      · rw [h.zero _ _ e]; exact ih (by omega)
      · exact List.mem_map.2 ⟨j + 1, List.mem_filter.2 ⟨List.mem_range.2 hj', (hk _ hj').2 (.inr (by simpa using e))⟩, rfl⟩
end
theorem cmpV_lex : Ord3 cmpV := by
  have h := (ordI3.lex (ordI3.lex ordS (fun p : Int × ByteArray => p.1) (fun p => p.2) (fun x y a b => Prod.ext a b)) (fun x : S24 => x.f0) (fun x => (x.f1, x.f2)) (fun x y a b => by
    obtain ⟨b1, b2⟩ := Prod.mk.inj b
    cases x; cases y
    simp only [S24.mk.injEq]
    exact ⟨a, b1, b2⟩))
  have e : cmpV = fun x y => if ordI x.f0 y.f0 ≠ 0 then ordI x.f0 y.f0 else if ordI x.f1 y.f1 ≠ 0 then ordI x.f1 y.f1 else cmpS x.f2 y.f2 := by
    funext x y
    unfold cmpV
    simp only [orL]
    by_cases hz : cmpS x.f2 y.f2 = 0 <;> simp [hz]
  rw [e]; exact h
theorem cmpL_ord : Ord3 compareL where
  swap := by
    intro x
    induction x with
    | nil => intro y; cases y <;> simp [compareL]
    | cons p x ih =>
      intro y
      cases y with
      | nil => simp [compareL]
      | cons q y =>
        have a := cmpV_lex.swap p q
        simp only [compareL]
        by_cases e : cmpV p q = 0
        · rw [if_pos e, if_pos (by omega)]; exact ih y
        · rw [if_neg e, if_neg (by omega)]; exact a
  le := by
    intro x
    induction x with
    | nil => intro y z _ _; cases z <;> simp [compareL]
    | cons p x ih =>
      intro y z h1 h2
      cases y with
      | nil => simp [compareL] at h1
      | cons q y =>
        cases z with
        | nil => simp [compareL] at h2
        | cons r z =>
          simp only [compareL] at h1 h2 ⊢
          by_cases e : cmpV p q = 0
          · obtain rfl := cmpV_lex.zero _ _ e
            rw [if_pos e] at h1
            by_cases e2 : cmpV p r = 0
            · rw [if_pos e2] at h2 ⊢
              exact ih y z h1 h2
            · rw [if_neg e2] at h2 ⊢
              exact h2
          · rw [if_neg e] at h1
            by_cases e2 : cmpV q r = 0
            · obtain rfl := cmpV_lex.zero _ _ e2
              rw [if_neg e]; exact h1
            · rw [if_neg e2] at h2
              have := cmpV_lex.lt (x := p) (y := q) (z := r) (by omega) h2
              rw [if_neg (by omega)]; omega
  zero := by
    intro x
    induction x with
    | nil => intro y h; cases y <;> simp [compareL] at h ⊢
    | cons p x ih =>
      intro y h
      cases y with
      | nil => simp [compareL] at h
      | cons q y =>
        simp only [compareL] at h
        by_cases e : cmpV p q = 0
        · rw [if_pos e] at h
          rw [cmpV_lex.zero _ _ e, ih y h]
        · rw [if_neg e] at h; exact absurd h e
/-- How two facts compare. -/
def cf53 (x y : S53) : Int := factCmp x.f0 x.f1 y.f0 y.f1
theorem ord53 : Ord3 cf53 := by
  have h := (ordS.lex cmpL_ord (fun x : S53 => x.f0) (fun x => x.f1) (fun x y a b => by
    cases x; cases y
    simp only [S53.mk.injEq]
    exact ⟨a, b⟩))
  have h2 := (ordS.lex (ordI3.lex cmpL_ord (fun p : List S24 => (p.length : Int)) (fun p => p) (fun x y a b => b)) (fun x : S53 => x.f0) (fun x => x.f1) (fun x y a b => by
    cases x; cases y
    simp only [S53.mk.injEq]
    exact ⟨a, b⟩))
  have e : cf53 = fun x y => if cmpS x.f0 y.f0 ≠ 0 then cmpS x.f0 y.f0 else if ordI (x.f1.length : Int) (y.f1.length : Int) ≠ 0 then ordI (x.f1.length : Int) (y.f1.length : Int) else compareL x.f1 y.f1 := by
    funext x y
    unfold cf53 factCmp
    simp only [orL]
    by_cases hz : compareL x.f1 y.f1 = 0 <;> simp [hz]
  rw [e]; exact h2
end Go.Proofs.Ytghommaokdhjmaa.Fct
/- The walk of slices.SortStableFunc's family at []api.Fact: symMergeCmpFunc where one side is one element; what is asked: the comparing function's contract (it may lay blocks), how the row lies. -/
set_option linter.unusedVariables false
set_option linter.unusedSimpArgs false
namespace Go.Proofs.Ytghommaokdhjmaa.SortF
open Go.Shelf Go.RowKit Go.Lib Go.Sort Go.Proofs.SymP
variable {P : Program} {α : Type} [Inhabited α]

set_option maxHeartbeats 16000000 in
set_option maxRecDepth 1000000 in
theorem symMerge_left (L : Lays P) (k : Nat) (aE : ∀ w, (isAgg 53).run P w = .ok true w) (zE : ∀ w, (Go.sizeOf 53).run P w = .ok k w) (enc : α → List Value) (cf : α → α → Int) (g : Nat) (cb : Array Value) (blk off sz : Nat) (w0 : World) (eg : ∀ args w, (callFunc g args).run P w = .ok (.enter g args) w) (hcmp : CmpLays P g cb enc k cf blk off sz w0) 
    (cap a m b : Nat) (az mz bz : Int) (haz : az = a) (hmz : mz = m) (hbz : bz = b) (d0 d : Array α) (w : World)
    (R : RowK enc k w0 blk off d0) (hs : d0.size = sz) (hd : d.size = sz) (S : SWK enc k w0 blk off d w) (h1 : a < m) (h2 : m < b) (h3 : b ≤ sz) (hsz : sz < 4611686018427387904) (hm : m - a = 1) (f : Nat) :
    Calls P 124 #[.slice (some ⟨blk, off, none⟩) sz cap, .int .i64 az, .int .i64 mz, .int .i64 bz, .func (.func g) #[] cb] w fun e w' => e = .returned (.tuple #[]) ∧ SWK enc k w0 blk off (symMerge (ltOf cf) (f + 1) d a m b) w' := by
  subst haz hmz hbz
  have mixed := L.mixed; have t0 := L.t0; have a0 := L.a0; have z0 := L.z0; have v0 := L.v0; have tI := L.tI; have aI := L.aI; have zI := L.zI; have vI := L.vI; have tB := L.tB; have aB := L.aB; have zB := L.zB; have vB := L.vB; have tS := L.tS; have aS := L.aS; have zS := L.zS; have vS := L.vS; have tF := L.tF; have aF := L.aF; have zF := L.zF; have vF := L.vF; have tU := L.tU; have aU := L.aU; have zU := L.zU; have vU := L.vU
  have FG := L.Fsm
  have HC : Aside _ := hcmp
  clear hcmp
  have S0 : Aside (SWK enc k w0 blk off d w) := S
  clear S
  have eq1 : ((m : Int) - (a : Int) == 1) = true := by simp; omega
  have eq2 : decide ((m : Int) - (a : Int) = 1) = true := decide_eq_true (by omega)
  have HS : Aside (symMerge (ltOf cf) (f + 1) d a m b = _) := symMerge_up (ltOf cf) f d a m b hm
  go_enter FG, Try.ntmps124
  go_wp2
  go_loopg [10, 11] (b - m) (fun kx s10 s11 wr => ∃ (i j q : Nat), s10 = .int .i64 i ∧ s11 = .int .i64 j ∧ m ≤ i ∧ i ≤ j ∧ j ≤ b ∧ j - i ≤ q ∧ q ≤ kx ∧ Aside (SWK enc k w0 blk off d wr) ∧ Hid (bs (fun h => ltOf cf d[h]! d[a]!) q i j = bs (fun h => ltOf cf d[h]! d[a]!) (b - m) m b))
  case atStart => exact ⟨m, b, b - m, rfl, rfl, Nat.le_refl _, by omega, Nat.le_refl _, Nat.le_refl _, Nat.le_refl _, S0, rfl⟩
  case round =>
    clear S0
    obtain ⟨i, j, q, rfl, rfl, hmi, hij, hjb, hq, hkx, S1, HE⟩ := hrel
    by_cases hlt : i < j
    · have hltz : (i : Int) < (j : Int) := by omega
      obtain ⟨q, rfl⟩ : ∃ z, q = z + 1 := ⟨q - 1, by omega⟩
      cases hlv : ltOf cf d[(i + j) / 2]! d[a]! with
      | true =>
        have HE2 : Hid (bs (fun h => ltOf cf d[h]! d[a]!) q ((i + j) / 2 + 1) j = bs (fun h => ltOf cf d[h]! d[a]!) (b - m) m b) := (bs_yes _ q i j hlt hlv).symm.trans HE.out
        clear HE
        have ea1 : (((i : Int) + (j : Int)) / 2).toNat = (i + j) / 2 := by omega
        have pa1 : (0 : Int) ≤ ((i : Int) + (j : Int)) / 2 := by omega
        have ba1 : ((i : Int) + (j : Int)) / 2 < (sz : Int) := by omega
        have ra1 : IntKind.i64.wrap (((i : Int) + (j : Int)) / 2) = ((i : Int) + (j : Int)) / 2 := by rw [IntKind.wrap_i64]; omega
        have ec1 : ((a : Int)).toNat = a := by omega
        have pc1 : (0 : Int) ≤ (a : Int) := by omega
        have bc1 : (a : Int) < (sz : Int) := by omega
        have rc1 : IntKind.i64.wrap ((a : Int)) = (a : Int) := by rw [IntKind.wrap_i64]; omega
        obtain ⟨x1, hx1⟩ : ∃ x, x = d[(i + j) / 2]! := ⟨_, rfl⟩
        obtain ⟨y1, hy1⟩ : ∃ x, x = d[a]! := ⟨_, rfl⟩
        have l1a := S1.out.ld R (by omega) P ((i + j) / 2) (by omega)
        have l1b := S1.out.ld R (by omega) P (a) (by omega)
        rw [← hx1] at l1a
        rw [← hy1] at l1b
        have hc1 := S1.out.cmp HC.out (by omega) x1 y1
        have hv1 : cf x1 y1 < 0 := by rw [hx1, hy1]; exact of_decide_eq_true hlv
        have hd1 : decide (cf x1 y1 < 0) = true := decide_eq_true hv1
        clear hx1 hy1
        go_wp2_with fail
        go_quiet_grown (first | (go_at_fn g; refine Calls.grown_of (hc1 _ _)))
        have S2 : Aside (SWK enc k w0 blk off d (grow (wr.drewN nq) osq)) := S1.out.grown nq osq
        clear l1a l1b hc1 S1
        generalize grow (wr.drewN nq) osq = w2 at S2 ⊢
        clear nq osq
        go_wp2
        go_roundg q
        case measure => omega
        case rel => exact ⟨(i + j) / 2 + 1, j, q, by go_num, rfl, by omega, by omega, hjb, by omega, Nat.le_refl _, S2, HE2⟩
      | false =>
        have HE2 : Hid (bs (fun h => ltOf cf d[h]! d[a]!) q i ((i + j) / 2) = bs (fun h => ltOf cf d[h]! d[a]!) (b - m) m b) := (bs_no _ q i j hlt hlv).symm.trans HE.out
        clear HE
        have ea1 : (((i : Int) + (j : Int)) / 2).toNat = (i + j) / 2 := by omega
        have pa1 : (0 : Int) ≤ ((i : Int) + (j : Int)) / 2 := by omega
        have ba1 : ((i : Int) + (j : Int)) / 2 < (sz : Int) := by omega
        have ra1 : IntKind.i64.wrap (((i : Int) + (j : Int)) / 2) = ((i : Int) + (j : Int)) / 2 := by rw [IntKind.wrap_i64]; omega
        have ec1 : ((a : Int)).toNat = a := by omega
        have pc1 : (0 : Int) ≤ (a : Int) := by omega
        have bc1 : (a : Int) < (sz : Int) := by omega
        have rc1 : IntKind.i64.wrap ((a : Int)) = (a : Int) := by rw [IntKind.wrap_i64]; omega
        obtain ⟨x1, hx1⟩ : ∃ x, x = d[(i + j) / 2]! := ⟨_, rfl⟩
        obtain ⟨y1, hy1⟩ : ∃ x, x = d[a]! := ⟨_, rfl⟩
        have l1a := S1.out.ld R (by omega) P ((i + j) / 2) (by omega)
        have l1b := S1.out.ld R (by omega) P (a) (by omega)
        rw [← hx1] at l1a
        rw [← hy1] at l1b
        have hc1 := S1.out.cmp HC.out (by omega) x1 y1
        have hv1 : ¬ cf x1 y1 < 0 := by rw [hx1, hy1]; exact of_decide_eq_false hlv
        have hd1 : decide (cf x1 y1 < 0) = false := decide_eq_false hv1
        clear hx1 hy1
        go_wp2_with fail
        go_quiet_grown (first | (go_at_fn g; refine Calls.grown_of (hc1 _ _)))
        have S2 : Aside (SWK enc k w0 blk off d (grow (wr.drewN nq) osq)) := S1.out.grown nq osq
        clear l1a l1b hc1 S1
        generalize grow (wr.drewN nq) osq = w2 at S2 ⊢
        clear nq osq
        go_wp2
        go_roundg q
        case measure => omega
        case rel => exact ⟨i, (i + j) / 2, q, rfl, by go_num, hmi, by omega, by omega, by omega, Nat.le_refl _, S2, HE2⟩
    · have hltz : ¬ (i : Int) < (j : Int) := by omega
      have hi : i = bs (fun h => ltOf cf d[h]! d[a]!) (b - m) m b := (bs_end _ q i j hlt).symm.trans HE.out
      have HI : Hid (i = bs (fun h => ltOf cf d[h]! d[a]!) (b - m) m b) := hi
      clear hi HE
      go_wp2
      go_loopg [13] (i - 1 - a) (fun kx s13 wr => ∃ (c r : Nat) (dk : Array α), s13 = .int .i64 c ∧ c + r = i - 1 ∧ a ≤ c ∧ r ≤ kx ∧ dk.size = sz ∧ Aside (SWK enc k w0 blk off dk wr) ∧ Hid (bubUp r c dk = bubUp (i - 1 - a) a d))
      case atStart => exact ⟨a, i - 1 - a, d, rfl, by omega, Nat.le_refl _, Nat.le_refl _, hd, S1, rfl⟩
      case round =>
        clear S1
        obtain ⟨c, r, dk, rfl, hcr, hac, hkr, hds, S1, HB⟩ := hrel
        cases r with
        | succ r =>
          have hlz : (c : Int) < (i : Int) - 1 := by omega
          have HB2 : Hid (bubUp r (c + 1) (swp dk c (c + 1)) = bubUp (i - 1 - a) a d) := HB.out
          clear HB
          go_wp2_with fail
          have ea2 : ((c : Int)).toNat = c := by omega
          have pa2 : (0 : Int) ≤ (c : Int) := by omega
          have ba2 : (c : Int) < (sz : Int) := by omega
          have ra2 : IntKind.i64.wrap ((c : Int)) = (c : Int) := by rw [IntKind.wrap_i64]; omega
          have ec2 : ((c : Int) + 1).toNat = c + 1 := by omega
          have pc2 : (0 : Int) ≤ (c : Int) + 1 := by omega
          have bc2 : (c : Int) + 1 < (sz : Int) := by omega
          have rc2 : IntKind.i64.wrap ((c : Int) + 1) = (c : Int) + 1 := by rw [IntKind.wrap_i64]; omega
          have S2 : Aside (SWK enc k w0 blk off (swp dk (c) (c + 1)) ((wr.drew.setCells blk (off + (c) * k) (enc dk[c + 1]!)).setCells blk (off + (c + 1) * k) (enc dk[c]!))) := S1.out.swapped R (c) (c + 1) (by omega) (by omega)
          have l2a := S1.out.ld1 R (by omega) P (c) (by omega)
          have l2b := S1.out.ld1 R (by omega) P (c + 1) (by omega)
          have s2a := S1.out.st1 R (by omega) P (c) (by omega) dk[c + 1]!
          have s2b := S1.out.st2 R (by omega) P (c) (c + 1) (by omega) (by omega) dk[c + 1]! dk[c]!
          have n2a : (enc dk[c]!).length = k := R.hk _
          have n2b : (enc dk[c + 1]!).length = k := R.hk _
          generalize enc dk[c]! = cI2 at S2 l2a s2b n2a
          generalize enc dk[c + 1]! = cJ2 at S2 l2b s2a s2b n2b
          clear S1
          go_wp2_with fail
          go_big_region_o
          clear l2a l2b s2a s2b
          generalize (wr.drew.setCells blk (off + (c) * k) cJ2).setCells blk (off + (c + 1) * k) cI2 = w2 at S2 ⊢
          go_wp2
          go_roundg r
          case measure => omega
          case rel => exact ⟨c + 1, r, swp dk c (c + 1), by go_num, by omega, by omega, Nat.le_refl _, by rw [size_swp]; exact hds, S2, HB2⟩
        | zero =>
          have hlz : ¬ (c : Int) < (i : Int) - 1 := by omega
          go_wp2
          (try simp only [Exit.inBlock, Exit.then]); refine bodyPost_ret (results_none rfl _ _ _) rfl ?_
          refine ⟨rfl, ?_⟩
          rw [HS.out, ← HI.out, ← HB.out]
          exact S1.out

set_option maxHeartbeats 16000000 in
set_option maxRecDepth 1000000 in
theorem symMerge_right (L : Lays P) (k : Nat) (aE : ∀ w, (isAgg 53).run P w = .ok true w) (zE : ∀ w, (Go.sizeOf 53).run P w = .ok k w) (enc : α → List Value) (cf : α → α → Int) (g : Nat) (cb : Array Value) (blk off sz : Nat) (w0 : World) (eg : ∀ args w, (callFunc g args).run P w = .ok (.enter g args) w) (hcmp : CmpLays P g cb enc k cf blk off sz w0) 
    (cap a m b : Nat) (az mz bz : Int) (haz : az = a) (hmz : mz = m) (hbz : bz = b) (d0 d : Array α) (w : World)
    (R : RowK enc k w0 blk off d0) (hs : d0.size = sz) (hd : d.size = sz) (S : SWK enc k w0 blk off d w) (h1 : a < m) (h2 : m < b) (h3 : b ≤ sz) (hsz : sz < 4611686018427387904) (hm : ¬ m - a = 1) (hm2 : b - m = 1) (f : Nat) :
    Calls P 124 #[.slice (some ⟨blk, off, none⟩) sz cap, .int .i64 az, .int .i64 mz, .int .i64 bz, .func (.func g) #[] cb] w fun e w' => e = .returned (.tuple #[]) ∧ SWK enc k w0 blk off (symMerge (ltOf cf) (f + 1) d a m b) w' := by
  subst haz hmz hbz
  have mixed := L.mixed; have t0 := L.t0; have a0 := L.a0; have z0 := L.z0; have v0 := L.v0; have tI := L.tI; have aI := L.aI; have zI := L.zI; have vI := L.vI; have tB := L.tB; have aB := L.aB; have zB := L.zB; have vB := L.vB; have tS := L.tS; have aS := L.aS; have zS := L.zS; have vS := L.vS; have tF := L.tF; have aF := L.aF; have zF := L.zF; have vF := L.vF; have tU := L.tU; have aU := L.aU; have zU := L.zU; have vU := L.vU
  have FG := L.Fsm
  have HC : Aside _ := hcmp
  clear hcmp
  have S0 : Aside (SWK enc k w0 blk off d w) := S
  clear S
  have eq1 : ((m : Int) - (a : Int) == 1) = false := by simp; omega
  have eq2 : decide ((m : Int) - (a : Int) = 1) = false := decide_eq_false (by omega)
  have eq3 : ((b : Int) - (m : Int) == 1) = true := by simp; omega
  have eq4 : decide ((b : Int) - (m : Int) = 1) = true := decide_eq_true (by omega)
  have HS : Aside (symMerge (ltOf cf) (f + 1) d a m b = _) := symMerge_down (ltOf cf) f d a m b hm hm2
  go_enter FG, Try.ntmps124
  go_wp2
  go_loopg [14, 15] (m - a) (fun kx s14 s15 wr => ∃ (i j q : Nat), s14 = .int .i64 i ∧ s15 = .int .i64 j ∧ a ≤ i ∧ i ≤ j ∧ j ≤ m ∧ j - i ≤ q ∧ q ≤ kx ∧ Aside (SWK enc k w0 blk off d wr) ∧ Hid (bs (fun h => !ltOf cf d[m]! d[h]!) q i j = bs (fun h => !ltOf cf d[m]! d[h]!) (m - a) a m))
  case atStart => exact ⟨a, m, m - a, rfl, rfl, Nat.le_refl _, by omega, Nat.le_refl _, Nat.le_refl _, Nat.le_refl _, S0, rfl⟩
  case round =>
    clear S0
    obtain ⟨i, j, q, rfl, rfl, hmi, hij, hjb, hq, hkx, S1, HE⟩ := hrel
    by_cases hlt : i < j
    · have hltz : (i : Int) < (j : Int) := by omega
      obtain ⟨q, rfl⟩ : ∃ z, q = z + 1 := ⟨q - 1, by omega⟩
      cases hlv : ltOf cf d[m]! d[(i + j) / 2]! with
      | false =>
        have HE2 : Hid (bs (fun h => !ltOf cf d[m]! d[h]!) q ((i + j) / 2 + 1) j = bs (fun h => !ltOf cf d[m]! d[h]!) (m - a) a m) := (bs_yes _ q i j hlt (by simp only [hlv]; rfl)).symm.trans HE.out
        clear HE
        have ea1 : ((m : Int)).toNat = m := by omega
        have pa1 : (0 : Int) ≤ (m : Int) := by omega
        have ba1 : (m : Int) < (sz : Int) := by omega
        have ra1 : IntKind.i64.wrap ((m : Int)) = (m : Int) := by rw [IntKind.wrap_i64]; omega
        have ec1 : (((i : Int) + (j : Int)) / 2).toNat = (i + j) / 2 := by omega
        have pc1 : (0 : Int) ≤ ((i : Int) + (j : Int)) / 2 := by omega
        have bc1 : ((i : Int) + (j : Int)) / 2 < (sz : Int) := by omega
        have rc1 : IntKind.i64.wrap (((i : Int) + (j : Int)) / 2) = ((i : Int) + (j : Int)) / 2 := by rw [IntKind.wrap_i64]; omega
        obtain ⟨x1, hx1⟩ : ∃ x, x = d[m]! := ⟨_, rfl⟩
        obtain ⟨y1, hy1⟩ : ∃ x, x = d[(i + j) / 2]! := ⟨_, rfl⟩
        have l1a := S1.out.ld R (by omega) P (m) (by omega)
        have l1b := S1.out.ld R (by omega) P ((i + j) / 2) (by omega)
        rw [← hx1] at l1a
        rw [← hy1] at l1b
        have hc1 := S1.out.cmp HC.out (by omega) x1 y1
        have hv1 : ¬ cf x1 y1 < 0 := by rw [hx1, hy1]; exact of_decide_eq_false hlv
        have hd1 : decide (cf x1 y1 < 0) = false := decide_eq_false hv1
        clear hx1 hy1
        go_wp2_with fail
        go_quiet_grown (first | (go_at_fn g; refine Calls.grown_of (hc1 _ _)))
        have S2 : Aside (SWK enc k w0 blk off d (grow (wr.drewN nq) osq)) := S1.out.grown nq osq
        clear l1a l1b hc1 S1
        generalize grow (wr.drewN nq) osq = w2 at S2 ⊢
        clear nq osq
        go_wp2
        go_roundg q
        case measure => omega
        case rel => exact ⟨(i + j) / 2 + 1, j, q, by go_num, rfl, by omega, by omega, hjb, by omega, Nat.le_refl _, S2, HE2⟩
      | true =>
        have HE2 : Hid (bs (fun h => !ltOf cf d[m]! d[h]!) q i ((i + j) / 2) = bs (fun h => !ltOf cf d[m]! d[h]!) (m - a) a m) := (bs_no _ q i j hlt (by simp only [hlv]; rfl)).symm.trans HE.out
        clear HE
        have ea1 : ((m : Int)).toNat = m := by omega
        have pa1 : (0 : Int) ≤ (m : Int) := by omega
        have ba1 : (m : Int) < (sz : Int) := by omega
        have ra1 : IntKind.i64.wrap ((m : Int)) = (m : Int) := by rw [IntKind.wrap_i64]; omega
        have ec1 : (((i : Int) + (j : Int)) / 2).toNat = (i + j) / 2 := by omega
        have pc1 : (0 : Int) ≤ ((i : Int) + (j : Int)) / 2 := by omega
        have bc1 : ((i : Int) + (j : Int)) / 2 < (sz : Int) := by omega
        have rc1 : IntKind.i64.wrap (((i : Int) + (j : Int)) / 2) = ((i : Int) + (j : Int)) / 2 := by rw [IntKind.wrap_i64]; omega
        obtain ⟨x1, hx1⟩ : ∃ x, x = d[m]! := ⟨_, rfl⟩
        obtain ⟨y1, hy1⟩ : ∃ x, x = d[(i + j) / 2]! := ⟨_, rfl⟩
        have l1a := S1.out.ld R (by omega) P (m) (by omega)
        have l1b := S1.out.ld R (by omega) P ((i + j) / 2) (by omega)
        rw [← hx1] at l1a
        rw [← hy1] at l1b
        have hc1 := S1.out.cmp HC.out (by omega) x1 y1
        have hv1 : cf x1 y1 < 0 := by rw [hx1, hy1]; exact of_decide_eq_true hlv
        have hd1 : decide (cf x1 y1 < 0) = true := decide_eq_true hv1
        clear hx1 hy1
        go_wp2_with fail
        go_quiet_grown (first | (go_at_fn g; refine Calls.grown_of (hc1 _ _)))
        have S2 : Aside (SWK enc k w0 blk off d (grow (wr.drewN nq) osq)) := S1.out.grown nq osq
        clear l1a l1b hc1 S1
        generalize grow (wr.drewN nq) osq = w2 at S2 ⊢
        clear nq osq
        go_wp2
        go_roundg q
        case measure => omega
        case rel => exact ⟨i, (i + j) / 2, q, rfl, by go_num, hmi, by omega, by omega, by omega, Nat.le_refl _, S2, HE2⟩
    · have hltz : ¬ (i : Int) < (j : Int) := by omega
      have hi : i = bs (fun h => !ltOf cf d[m]! d[h]!) (m - a) a m := (bs_end _ q i j hlt).symm.trans HE.out
      have HI : Hid (i = bs (fun h => !ltOf cf d[m]! d[h]!) (m - a) a m) := hi
      clear hi HE
      go_wp2
      go_loopg [17] (m - i) (fun kx s17 wr => ∃ (c r : Nat) (dk : Array α), s17 = .int .i64 c ∧ i + r = c ∧ c ≤ m ∧ r ≤ kx ∧ dk.size = sz ∧ Aside (SWK enc k w0 blk off dk wr) ∧ Hid (bubDown r c dk = bubDown (m - i) m d))
      case atStart => exact ⟨m, m - i, d, rfl, by omega, Nat.le_refl _, Nat.le_refl _, hd, S1, rfl⟩
      case round =>
        clear S1
        obtain ⟨c, r, dk, rfl, hcr, hac, hkr, hds, S1, HB⟩ := hrel
        cases r with
        | succ r =>
          have hlz : (i : Int) < (c : Int) := by omega
          have HB2 : Hid (bubDown r (c - 1) (swp dk c (c - 1)) = bubDown (m - i) m d) := HB.out
          clear HB
          go_wp2_with fail
          have ea2 : ((c : Int)).toNat = c := by omega
          have pa2 : (0 : Int) ≤ (c : Int) := by omega
          have ba2 : (c : Int) < (sz : Int) := by omega
          have ra2 : IntKind.i64.wrap ((c : Int)) = (c : Int) := by rw [IntKind.wrap_i64]; omega
          have ec2 : ((c : Int) - 1).toNat = c - 1 := by omega
          have pc2 : (0 : Int) ≤ (c : Int) - 1 := by omega
          have bc2 : (c : Int) - 1 < (sz : Int) := by omega
          have rc2 : IntKind.i64.wrap ((c : Int) - 1) = (c : Int) - 1 := by rw [IntKind.wrap_i64]; omega
          have S2 : Aside (SWK enc k w0 blk off (swp dk (c) (c - 1)) ((wr.drew.setCells blk (off + (c) * k) (enc dk[c - 1]!)).setCells blk (off + (c - 1) * k) (enc dk[c]!))) := S1.out.swapped R (c) (c - 1) (by omega) (by omega)
          have l2a := S1.out.ld1 R (by omega) P (c) (by omega)
          have l2b := S1.out.ld1 R (by omega) P (c - 1) (by omega)
          have s2a := S1.out.st1 R (by omega) P (c) (by omega) dk[c - 1]!
          have s2b := S1.out.st2 R (by omega) P (c) (c - 1) (by omega) (by omega) dk[c - 1]! dk[c]!
          have n2a : (enc dk[c]!).length = k := R.hk _
          have n2b : (enc dk[c - 1]!).length = k := R.hk _
          generalize enc dk[c]! = cI2 at S2 l2a s2b n2a
          generalize enc dk[c - 1]! = cJ2 at S2 l2b s2a s2b n2b
          clear S1
          go_wp2_with fail
          go_big_region_o
          clear l2a l2b s2a s2b
          generalize (wr.drew.setCells blk (off + (c) * k) cJ2).setCells blk (off + (c - 1) * k) cI2 = w2 at S2 ⊢
          go_wp2
          go_roundg r
          case measure => omega
          case rel => exact ⟨c - 1, r, swp dk c (c - 1), by congr 1; omega, by omega, by omega, Nat.le_refl _, by rw [size_swp]; exact hds, S2, HB2⟩
        | zero =>
          have hlz : ¬ (i : Int) < (c : Int) := by omega
          go_wp2
          (try simp only [Exit.inBlock, Exit.then]); refine bodyPost_ret (results_none rfl _ _ _) rfl ?_
          refine ⟨rfl, ?_⟩
          rw [HS.out, ← HI.out, ← HB.out]
          exact S1.out
end Go.Proofs.Ytghommaokdhjmaa.SortF
/- The walk of slices.SortStableFunc's family at []api.Fact: symMergeCmpFunc, whole; what is asked: the comparing function's contract (it may lay blocks), how the row lies. -/
set_option linter.unusedVariables false
set_option linter.unusedSimpArgs false
namespace Go.Proofs.Ytghommaokdhjmaa.SortF
open Go.Shelf Go.RowKit Go.Lib Go.Sort Go.Proofs.SymP
variable {P : Program} {α : Type} [Inhabited α]
/-- A fact that the walk does not look into. -/
structure Aside0 (p : Prop) : Prop where mk :: (out : p)
theorem Aside0_mk {p : Prop} (h : p) : Aside0 p := ⟨h⟩

set_option maxHeartbeats 16000000 in
set_option maxRecDepth 1000000 in
theorem symMerge_step0 (L : Lays P) (k : Nat) (aE : ∀ w, (isAgg 53).run P w = .ok true w) (zE : ∀ w, (Go.sizeOf 53).run P w = .ok k w) (enc : α → List Value) (cf : α → α → Int) (g : Nat) (cb : Array Value) (blk off sz : Nat) (w0 : World) (eg : ∀ args w, (callFunc g args).run P w = .ok (.enter g args) w) (hcmp : CmpLays P g cb enc k cf blk off sz w0) 
    (cap a m b : Nat) (az mz bz : Int) (haz : az = a) (hmz : mz = m) (hbz : bz = b) (d0 d : Array α) (w : World)
    (R : RowK enc k w0 blk off d0) (hs : d0.size = sz) (hd : d.size = sz) (S : SWK enc k w0 blk off d w) (h1 : a < m) (h2 : m < b) (h3 : b ≤ sz) (hsz : sz < 4611686018427387904) (hm : ¬ m - a = 1) (hm2 : ¬ b - m = 1) (f : Nat) (hF : b - a ≤ f + 1) (hc0 : (a + b) / 2 < m) (IH : ∀ (a m b : Nat) (az mz bz : Int) (haz : az = a) (hmz : mz = m) (hbz : bz = b) (d : Array α) (w : World) (hd : d.size = sz) (S : SWK enc k w0 blk off d w) (h1 : a < m) (h2 : m < b) (h3 : b ≤ sz) (hF : b - a ≤ f), Calls P 124 #[.slice (some ⟨blk, off, none⟩) sz cap, .int .i64 az, .int .i64 mz, .int .i64 bz, .func (.func g) #[] cb] w fun e w' => e = .returned (.tuple #[]) ∧ SWK enc k w0 blk off (symMerge (ltOf cf) f d a m b) w') :
    Calls P 124 #[.slice (some ⟨blk, off, none⟩) sz cap, .int .i64 az, .int .i64 mz, .int .i64 bz, .func (.func g) #[] cb] w fun e w' => e = .returned (.tuple #[]) ∧ SWK enc k w0 blk off (symMerge (ltOf cf) (f + 1) d a m b) w' := by
  subst haz hmz hbz
  have mixed := L.mixed; have t0 := L.t0; have a0 := L.a0; have z0 := L.z0; have v0 := L.v0; have tI := L.tI; have aI := L.aI; have zI := L.zI; have vI := L.vI; have tB := L.tB; have aB := L.aB; have zB := L.zB; have vB := L.vB; have tS := L.tS; have aS := L.aS; have zS := L.zS; have vS := L.vS; have tF := L.tF; have aF := L.aF; have zF := L.zF; have vF := L.vF; have tU := L.tU; have aU := L.aU; have zU := L.zU; have vU := L.vU
  have FG := L.Fsm
  have HC : Aside _ := hcmp
  clear hcmp
  have S0 : Aside (SWK enc k w0 blk off d w) := S
  clear S
  have IHh : Aside _ := IH
  clear IH
  have eq1 : ((m : Int) - (a : Int) == 1) = false := by simp; omega
  have eq2 : decide ((m : Int) - (a : Int) = 1) = false := decide_eq_false (by omega)
  have eq3 : ((b : Int) - (m : Int) == 1) = false := by simp; omega
  have eq4 : decide ((b : Int) - (m : Int) = 1) = false := decide_eq_false (by omega)
  have er : ∀ args w, (callFunc 126 args).run P w = .ok (.enter 126 args) w := enters_of L.Fro (by kernel_rfl) rfl
  have es : ∀ args w, (callFunc 124 args).run P w = .ok (.enter 124 args) w := enters_of L.Fsm (by kernel_rfl) rfl
  obtain ⟨mid, hmid⟩ : ∃ z, (a + b) / 2 = z := ⟨_, rfl⟩
  have hc : mid < m := by omega
  obtain ⟨s0, hs0⟩ : ∃ z, (if mid < m then mid + m - b else a) = z := ⟨_, rfl⟩
  obtain ⟨r0, hr0⟩ : ∃ z, (if mid < m then mid else m) = z := ⟨_, rfl⟩
  obtain ⟨st, hst⟩ : ∃ z, bs (fun c => !ltOf cf d[mid + m - 1 - c]! d[c]!) (r0 - s0) s0 r0 = z := ⟨_, rfl⟩
  obtain ⟨e, he⟩ : ∃ z, mid + m - st = z := ⟨_, rfl⟩
  obtain ⟨d1, h1d⟩ : ∃ z, (if st < m ∧ m < e then rotate d st m e else d) = z := ⟨_, rfl⟩
  obtain ⟨d2, h2d⟩ : ∃ z, (if a < st ∧ st < mid then symMerge (ltOf cf) f d1 a st mid else d1) = z := ⟨_, rfl⟩
  have HS : Aside (symMerge (ltOf cf) (f + 1) d a m b = _) := symMerge_mid (ltOf cf) f d d1 d2 a m b mid s0 r0 st e hm hm2 hmid hs0 hr0 hst he h1d h2d
  have hb0 : a ≤ s0 ∧ s0 ≤ r0 ∧ r0 ≤ mid ∧ r0 ≤ m := by rw [← hs0, ← hr0]; split <;> omega
  obtain ⟨k1, k2, k3, k4⟩ := hb0
  obtain ⟨g1, g2, _, _⟩ := bs_spec (fun c => !ltOf cf d[mid + m - 1 - c]! d[c]!) (r0 - s0) s0 r0 (by omega) (by omega)
  rw [hst] at g1 g2
  have he1 : m ≤ e := by omega
  have he2 : e ≤ b := by by_cases c : mid < m <;> simp only [c, if_true, if_false] at hs0 <;> omega
  have hsz1 : d1.size = sz := by rw [← h1d]; split <;> simp [size_rotate, hd]
  have hsz2 : d2.size = sz := by rw [← h2d]; split <;> simp [size_symMerge, hsz1]
  have Q1 : Aside (bs (fun c => !ltOf cf d[mid + m - 1 - c]! d[c]!) (r0 - s0) s0 r0 = st) := hst
  have Q2 : Aside ((if st < m ∧ m < e then rotate d st m e else d) = d1) := h1d
  have Q3 : Aside ((if a < st ∧ st < mid then symMerge (ltOf cf) f d1 a st mid else d1) = d2) := h2d
  clear hst h1d h2d
  have f1 : ((a : Int) + (b : Int)) / 2 = (mid : Int) := by omega
  have f2 : (mid : Int) + (m : Int) - (st : Int) = (e : Int) := by omega
  have l1 : a < mid := by omega
  have l2 : mid < b := by omega
  clear hmid he
  have S1 := S0
  clear S0
  have hcz : (mid : Int) < (m : Int) := by omega
  rw [if_pos hc] at hs0 hr0
  obtain rfl : r0 = mid := hr0.symm
  have f3 : (r0 : Int) + (m : Int) - (b : Int) = (s0 : Int) := by omega
  clear hs0 hr0
  go_enter FG, Try.ntmps124
  go_wp2
  go_loopg [20, 21] (r0 - s0) (fun kx s20 s21 wr => ∃ (i j q : Nat), s20 = .int .i64 i ∧ s21 = .int .i64 j ∧ s0 ≤ i ∧ i ≤ j ∧ j ≤ r0 ∧ j - i ≤ q ∧ q ≤ kx ∧ Aside (SWK enc k w0 blk off d wr) ∧ Hid (bs (fun c => !ltOf cf d[r0 + m - 1 - c]! d[c]!) q i j = st))
  case atStart => exact ⟨s0, r0, r0 - s0, rfl, rfl, Nat.le_refl _, by omega, Nat.le_refl _, Nat.le_refl _, Nat.le_refl _, S1, Q1.out⟩
  case round =>
    clear S1
    obtain ⟨i, j, q, rfl, rfl, hmi, hij, hjb, hq, hkx, S1, HE⟩ := hrel
    by_cases hlt : i < j
    · have hltz : (i : Int) < (j : Int) := by omega
      obtain ⟨q, rfl⟩ : ∃ z, q = z + 1 := ⟨q - 1, by omega⟩
      obtain ⟨px, hpx⟩ : ∃ z, z = r0 + m - 1 - (i + j) / 2 := ⟨_, rfl⟩
      have hpz : (r0 : Int) + (m : Int) - 1 - ((i : Int) + (j : Int)) / 2 = (px : Int) := by omega
      have hpl : px < sz := by omega
      have HPX : Hid (px = r0 + m - 1 - (i + j) / 2) := hpx
      clear hpx
      cases hlv : ltOf cf d[px]! d[(i + j) / 2]! with
      | false =>
        have HE2 : Hid (bs (fun c => !ltOf cf d[r0 + m - 1 - c]! d[c]!) q ((i + j) / 2 + 1) j = st) := (bs_yes _ q i j hlt (by show (!ltOf cf d[r0 + m - 1 - (i + j) / 2]! d[(i + j) / 2]!) = _; rw [← HPX.out, hlv]; rfl)).symm.trans HE.out
        clear HE
        have ea1 : ((px : Int)).toNat = px := by omega
        have pa1 : (0 : Int) ≤ (px : Int) := by omega
        have ba1 : (px : Int) < (sz : Int) := by omega
        have ra1 : IntKind.i64.wrap ((px : Int)) = (px : Int) := by rw [IntKind.wrap_i64]; omega
        have ec1 : (((i : Int) + (j : Int)) / 2).toNat = (i + j) / 2 := by omega
        have pc1 : (0 : Int) ≤ ((i : Int) + (j : Int)) / 2 := by omega
        have bc1 : ((i : Int) + (j : Int)) / 2 < (sz : Int) := by omega
        have rc1 : IntKind.i64.wrap (((i : Int) + (j : Int)) / 2) = ((i : Int) + (j : Int)) / 2 := by rw [IntKind.wrap_i64]; omega
        obtain ⟨x1, hx1⟩ : ∃ x, x = d[px]! := ⟨_, rfl⟩
        obtain ⟨y1, hy1⟩ : ∃ x, x = d[(i + j) / 2]! := ⟨_, rfl⟩
        have l1a := S1.out.ld R (by omega) P (px) (by omega)
        have l1b := S1.out.ld R (by omega) P ((i + j) / 2) (by omega)
        rw [← hx1] at l1a
        rw [← hy1] at l1b
        have hc1 := S1.out.cmp HC.out (by omega) x1 y1
        have hv1 : ¬ cf x1 y1 < 0 := by rw [hx1, hy1]; exact of_decide_eq_false hlv
        have hd1 : decide (cf x1 y1 < 0) = false := decide_eq_false hv1
        clear hx1 hy1
        go_wp2_with fail
        go_quiet_grown (first | (go_at_fn g; refine Calls.grown_of (hc1 _ _)))
        have S2 : Aside (SWK enc k w0 blk off d (grow (wr.drewN nq) osq)) := S1.out.grown nq osq
        clear l1a l1b hc1 S1
        generalize grow (wr.drewN nq) osq = w2 at S2 ⊢
        clear nq osq
        go_wp2
        go_roundg q
        case measure => omega
        case rel => exact ⟨(i + j) / 2 + 1, j, q, by go_num, rfl, by omega, by omega, hjb, by omega, Nat.le_refl _, S2, HE2⟩
      | true =>
        have HE2 : Hid (bs (fun c => !ltOf cf d[r0 + m - 1 - c]! d[c]!) q i ((i + j) / 2) = st) := (bs_no _ q i j hlt (by show (!ltOf cf d[r0 + m - 1 - (i + j) / 2]! d[(i + j) / 2]!) = _; rw [← HPX.out, hlv]; rfl)).symm.trans HE.out
        clear HE
        have ea1 : ((px : Int)).toNat = px := by omega
        have pa1 : (0 : Int) ≤ (px : Int) := by omega
        have ba1 : (px : Int) < (sz : Int) := by omega
        have ra1 : IntKind.i64.wrap ((px : Int)) = (px : Int) := by rw [IntKind.wrap_i64]; omega
        have ec1 : (((i : Int) + (j : Int)) / 2).toNat = (i + j) / 2 := by omega
        have pc1 : (0 : Int) ≤ ((i : Int) + (j : Int)) / 2 := by omega
        have bc1 : ((i : Int) + (j : Int)) / 2 < (sz : Int) := by omega
        have rc1 : IntKind.i64.wrap (((i : Int) + (j : Int)) / 2) = ((i : Int) + (j : Int)) / 2 := by rw [IntKind.wrap_i64]; omega
        obtain ⟨x1, hx1⟩ : ∃ x, x = d[px]! := ⟨_, rfl⟩
        obtain ⟨y1, hy1⟩ : ∃ x, x = d[(i + j) / 2]! := ⟨_, rfl⟩
        have l1a := S1.out.ld R (by omega) P (px) (by omega)
        have l1b := S1.out.ld R (by omega) P ((i + j) / 2) (by omega)
        rw [← hx1] at l1a
        rw [← hy1] at l1b
        have hc1 := S1.out.cmp HC.out (by omega) x1 y1
        have hv1 : cf x1 y1 < 0 := by rw [hx1, hy1]; exact of_decide_eq_true hlv
        have hd1 : decide (cf x1 y1 < 0) = true := decide_eq_true hv1
        clear hx1 hy1
        go_wp2_with fail
        go_quiet_grown (first | (go_at_fn g; refine Calls.grown_of (hc1 _ _)))
        have S2 : Aside (SWK enc k w0 blk off d (grow (wr.drewN nq) osq)) := S1.out.grown nq osq
        clear l1a l1b hc1 S1
        generalize grow (wr.drewN nq) osq = w2 at S2 ⊢
        clear nq osq
        go_wp2
        go_roundg q
        case measure => omega
        case rel => exact ⟨i, (i + j) / 2, q, rfl, by go_num, hmi, by omega, by omega, by omega, Nat.le_refl _, S2, HE2⟩
    · have hltz : ¬ (i : Int) < (j : Int) := by omega
      obtain rfl : st = i := HE.out.symm.trans (bs_end _ q i j hlt)
      clear HE
      obtain ⟨tb, htb⟩ : ∃ t : Bool, t = decide (st < m ∧ m < e) := ⟨_, rfl⟩
      have HTB : Hid (tb = decide (st < m ∧ m < e)) := htb
      clear htb
      go_upto_region 39 with fail
      go_cut [185] from 25 (fun s wc => s = .bool tb ∧ Aside (SWK enc k w0 blk off d wc))
      case first =>
        by_cases c1 : st < m
        · have c1z : (st : Int) < (m : Int) := by omega
          by_cases c2 : m < e
          · have c2z : (m : Int) < (e : Int) := by omega
            go_wp2_with fail
            go_meet
            case rel => exact ⟨by rw [HTB.out]; simp [c1, c2], S1⟩
          · have c2z : ¬ (m : Int) < (e : Int) := by omega
            go_wp2_with fail
            go_meet
            case rel => exact ⟨by rw [HTB.out]; simp [c1, c2], S1⟩
        · have c1z : ¬ (st : Int) < (m : Int) := by omega
          go_wp2_with fail
          go_meet
          case rel => exact ⟨by rw [HTB.out]; simp [c1], S1⟩
      case rest =>
        as_aux_lemma =>
          clear S1
          obtain ⟨rfl, S1⟩ := hcut
          go_upto_if 185 with fail
          go_cut [] from 25 (fun wc => Aside (SWK enc k w0 blk off d1 wc))
          case first =>
            cases tb with
            | true =>
              have C1 := Aside0_mk (of_decide_eq_true HTB.out.symm)
              go_wp2_with (go_at_fn 126; refine (rotateCmpFunc L k aE zE enc g cb blk off sz cap st m e _ _ _ rfl rfl rfl d0 d w0 _ R hs hd S1.out C1.out.1 C1.out.2 (by omega) hsz).mono ?_; rintro e' w2 ⟨rfl, hS2⟩; have S2 : Aside _ := hS2; clear hS2)
              go_meet
              case rel => exact (by have h_ := Q2.out; rw [if_pos C1.out] at h_; exact h_ ▸ S2.out)
            | false =>
              have C1 := Aside0_mk (of_decide_eq_false HTB.out.symm)
              go_wp2_with fail
              go_meet
              case rel => exact (by have h_ := Q2.out; rw [if_neg C1.out] at h_; exact h_ ▸ S1.out)
          case rest =>
            as_aux_lemma =>
              have S4 := hcut
              clear hcut S1
              have S3 := S4
              clear S4
              clear HTB
              obtain ⟨tb, htb⟩ : ∃ t : Bool, t = decide (a < st ∧ st < r0) := ⟨_, rfl⟩
              have HTB : Hid (tb = decide (a < st ∧ st < r0)) := htb
              clear htb
              go_upto_region 41 with fail
              go_cut [199] from 25 (fun s wc => s = .bool tb ∧ Aside (SWK enc k w0 blk off d1 wc))
              case first =>
                by_cases c1 : a < st
                · have c1z : (a : Int) < (st : Int) := by omega
                  by_cases c2 : st < r0
                  · have c2z : (st : Int) < (r0 : Int) := by omega
                    go_wp2_with fail
                    go_meet
                    case rel => exact ⟨by rw [HTB.out]; simp [c1, c2], S3⟩
                  · have c2z : ¬ (st : Int) < (r0 : Int) := by omega
                    go_wp2_with fail
                    go_meet
                    case rel => exact ⟨by rw [HTB.out]; simp [c1, c2], S3⟩
                · have c1z : ¬ (a : Int) < (st : Int) := by omega
                  go_wp2_with fail
                  go_meet
                  case rel => exact ⟨by rw [HTB.out]; simp [c1], S3⟩
              case rest =>
                as_aux_lemma =>
                  clear S3
                  obtain ⟨rfl, S3⟩ := hcut
                  go_upto_if 199 with fail
                  go_cut [] from 25 (fun wc => Aside (SWK enc k w0 blk off d2 wc))
                  case first =>
                    cases tb with
                    | true =>
                      have C1 := Aside0_mk (of_decide_eq_true HTB.out.symm)
                      go_wp2_with (go_at_fn 124; refine (IHh.out a st r0 _ _ _ rfl rfl rfl d1 _ hsz1 S3.out C1.out.1 C1.out.2 (by omega) (by omega)).mono ?_; rintro e' w2 ⟨rfl, hS2⟩; have S2 : Aside _ := hS2; clear hS2)
                      go_meet
                      case rel => exact (by have h_ := Q3.out; rw [if_pos C1.out] at h_; exact h_ ▸ S2.out)
                    | false =>
                      have C1 := Aside0_mk (of_decide_eq_false HTB.out.symm)
                      go_wp2_with fail
                      go_meet
                      case rel => exact (by have h_ := Q3.out; rw [if_neg C1.out] at h_; exact h_ ▸ S3.out)
                  case rest =>
                    as_aux_lemma =>
                      have S4 := hcut
                      clear hcut S3
                      have S3 := S4
                      clear S4
                      clear HTB
                      obtain ⟨tb, htb⟩ : ∃ t : Bool, t = decide (r0 < e ∧ e < b) := ⟨_, rfl⟩
                      have HTB : Hid (tb = decide (r0 < e ∧ e < b)) := htb
                      clear htb
                      go_upto_region 43 with fail
                      go_cut [213] from 25 (fun s wc => s = .bool tb ∧ Aside (SWK enc k w0 blk off d2 wc))
                      case first =>
                        by_cases c1 : r0 < e
                        · have c1z : (r0 : Int) < (e : Int) := by omega
                          by_cases c2 : e < b
                          · have c2z : (e : Int) < (b : Int) := by omega
                            go_wp2_with fail
                            go_meet
                            case rel => exact ⟨by rw [HTB.out]; simp [c1, c2], S3⟩
                          · have c2z : ¬ (e : Int) < (b : Int) := by omega
                            go_wp2_with fail
                            go_meet
                            case rel => exact ⟨by rw [HTB.out]; simp [c1, c2], S3⟩
                        · have c1z : ¬ (r0 : Int) < (e : Int) := by omega
                          go_wp2_with fail
                          go_meet
                          case rel => exact ⟨by rw [HTB.out]; simp [c1], S3⟩
                      case rest =>
                        as_aux_lemma =>
                          clear S3
                          obtain ⟨rfl, S3⟩ := hcut
                          go_upto_if 213 with fail
                          cases tb with
                          | true =>
                            have C1 := Aside0_mk (of_decide_eq_true HTB.out.symm)
                            go_wp2_with (go_at_fn 124; refine (IHh.out r0 e b _ _ _ rfl rfl rfl d2 _ hsz2 S3.out C1.out.1 C1.out.2 (by omega) (by omega)).mono ?_; rintro e' w2 ⟨rfl, hS2⟩; have S2 : Aside _ := hS2; clear hS2)
                            go_end0
                            refine ⟨rfl, ?_⟩
                            rw [HS.out, if_pos C1.out]
                            exact S2.out
                          | false =>
                            have C1 := Aside0_mk (of_decide_eq_false HTB.out.symm)
                            go_wp2_with fail
                            go_end0
                            refine ⟨rfl, ?_⟩
                            rw [HS.out, if_neg C1.out]
                            exact S3.out

set_option maxHeartbeats 16000000 in
set_option maxRecDepth 1000000 in
theorem symMerge_step1 (L : Lays P) (k : Nat) (aE : ∀ w, (isAgg 53).run P w = .ok true w) (zE : ∀ w, (Go.sizeOf 53).run P w = .ok k w) (enc : α → List Value) (cf : α → α → Int) (g : Nat) (cb : Array Value) (blk off sz : Nat) (w0 : World) (eg : ∀ args w, (callFunc g args).run P w = .ok (.enter g args) w) (hcmp : CmpLays P g cb enc k cf blk off sz w0) 
    (cap a m b : Nat) (az mz bz : Int) (haz : az = a) (hmz : mz = m) (hbz : bz = b) (d0 d : Array α) (w : World)
    (R : RowK enc k w0 blk off d0) (hs : d0.size = sz) (hd : d.size = sz) (S : SWK enc k w0 blk off d w) (h1 : a < m) (h2 : m < b) (h3 : b ≤ sz) (hsz : sz < 4611686018427387904) (hm : ¬ m - a = 1) (hm2 : ¬ b - m = 1) (f : Nat) (hF : b - a ≤ f + 1) (hc0 : ¬ (a + b) / 2 < m) (IH : ∀ (a m b : Nat) (az mz bz : Int) (haz : az = a) (hmz : mz = m) (hbz : bz = b) (d : Array α) (w : World) (hd : d.size = sz) (S : SWK enc k w0 blk off d w) (h1 : a < m) (h2 : m < b) (h3 : b ≤ sz) (hF : b - a ≤ f), Calls P 124 #[.slice (some ⟨blk, off, none⟩) sz cap, .int .i64 az, .int .i64 mz, .int .i64 bz, .func (.func g) #[] cb] w fun e w' => e = .returned (.tuple #[]) ∧ SWK enc k w0 blk off (symMerge (ltOf cf) f d a m b) w') :
    Calls P 124 #[.slice (some ⟨blk, off, none⟩) sz cap, .int .i64 az, .int .i64 mz, .int .i64 bz, .func (.func g) #[] cb] w fun e w' => e = .returned (.tuple #[]) ∧ SWK enc k w0 blk off (symMerge (ltOf cf) (f + 1) d a m b) w' := by
  subst haz hmz hbz
  have mixed := L.mixed; have t0 := L.t0; have a0 := L.a0; have z0 := L.z0; have v0 := L.v0; have tI := L.tI; have aI := L.aI; have zI := L.zI; have vI := L.vI; have tB := L.tB; have aB := L.aB; have zB := L.zB; have vB := L.vB; have tS := L.tS; have aS := L.aS; have zS := L.zS; have vS := L.vS; have tF := L.tF; have aF := L.aF; have zF := L.zF; have vF := L.vF; have tU := L.tU; have aU := L.aU; have zU := L.zU; have vU := L.vU
  have FG := L.Fsm
  have HC : Aside _ := hcmp
  clear hcmp
  have S0 : Aside (SWK enc k w0 blk off d w) := S
  clear S
  have IHh : Aside _ := IH
  clear IH
  have eq1 : ((m : Int) - (a : Int) == 1) = false := by simp; omega
  have eq2 : decide ((m : Int) - (a : Int) = 1) = false := decide_eq_false (by omega)
  have eq3 : ((b : Int) - (m : Int) == 1) = false := by simp; omega
  have eq4 : decide ((b : Int) - (m : Int) = 1) = false := decide_eq_false (by omega)
  have er : ∀ args w, (callFunc 126 args).run P w = .ok (.enter 126 args) w := enters_of L.Fro (by kernel_rfl) rfl
  have es : ∀ args w, (callFunc 124 args).run P w = .ok (.enter 124 args) w := enters_of L.Fsm (by kernel_rfl) rfl
  obtain ⟨mid, hmid⟩ : ∃ z, (a + b) / 2 = z := ⟨_, rfl⟩
  have hc : ¬ mid < m := by omega
  obtain ⟨s0, hs0⟩ : ∃ z, (if mid < m then mid + m - b else a) = z := ⟨_, rfl⟩
  obtain ⟨r0, hr0⟩ : ∃ z, (if mid < m then mid else m) = z := ⟨_, rfl⟩
  obtain ⟨st, hst⟩ : ∃ z, bs (fun c => !ltOf cf d[mid + m - 1 - c]! d[c]!) (r0 - s0) s0 r0 = z := ⟨_, rfl⟩
  obtain ⟨e, he⟩ : ∃ z, mid + m - st = z := ⟨_, rfl⟩
  obtain ⟨d1, h1d⟩ : ∃ z, (if st < m ∧ m < e then rotate d st m e else d) = z := ⟨_, rfl⟩
  obtain ⟨d2, h2d⟩ : ∃ z, (if a < st ∧ st < mid then symMerge (ltOf cf) f d1 a st mid else d1) = z := ⟨_, rfl⟩
  have HS : Aside (symMerge (ltOf cf) (f + 1) d a m b = _) := symMerge_mid (ltOf cf) f d d1 d2 a m b mid s0 r0 st e hm hm2 hmid hs0 hr0 hst he h1d h2d
  have hb0 : a ≤ s0 ∧ s0 ≤ r0 ∧ r0 ≤ mid ∧ r0 ≤ m := by rw [← hs0, ← hr0]; split <;> omega
  obtain ⟨k1, k2, k3, k4⟩ := hb0
  obtain ⟨g1, g2, _, _⟩ := bs_spec (fun c => !ltOf cf d[mid + m - 1 - c]! d[c]!) (r0 - s0) s0 r0 (by omega) (by omega)
  rw [hst] at g1 g2
  have he1 : m ≤ e := by omega
  have he2 : e ≤ b := by by_cases c : mid < m <;> simp only [c, if_true, if_false] at hs0 <;> omega
  have hsz1 : d1.size = sz := by rw [← h1d]; split <;> simp [size_rotate, hd]
  have hsz2 : d2.size = sz := by rw [← h2d]; split <;> simp [size_symMerge, hsz1]
  have Q1 : Aside (bs (fun c => !ltOf cf d[mid + m - 1 - c]! d[c]!) (r0 - s0) s0 r0 = st) := hst
  have Q2 : Aside ((if st < m ∧ m < e then rotate d st m e else d) = d1) := h1d
  have Q3 : Aside ((if a < st ∧ st < mid then symMerge (ltOf cf) f d1 a st mid else d1) = d2) := h2d
  clear hst h1d h2d
  have f1 : ((a : Int) + (b : Int)) / 2 = (mid : Int) := by omega
  have f2 : (mid : Int) + (m : Int) - (st : Int) = (e : Int) := by omega
  have l1 : a < mid := by omega
  have l2 : mid < b := by omega
  clear hmid he
  have S1 := S0
  clear S0
  have hcz : ¬ (mid : Int) < (m : Int) := by omega
  rw [if_neg hc] at hs0 hr0
  obtain rfl : s0 = a := hs0.symm
  obtain rfl : r0 = m := hr0.symm
  clear hs0 hr0
  go_enter FG, Try.ntmps124
  go_wp2
  go_loopg [20, 21] (r0 - s0) (fun kx s20 s21 wr => ∃ (i j q : Nat), s20 = .int .i64 i ∧ s21 = .int .i64 j ∧ s0 ≤ i ∧ i ≤ j ∧ j ≤ r0 ∧ j - i ≤ q ∧ q ≤ kx ∧ Aside (SWK enc k w0 blk off d wr) ∧ Hid (bs (fun c => !ltOf cf d[mid + r0 - 1 - c]! d[c]!) q i j = st))
  case atStart => exact ⟨s0, r0, r0 - s0, rfl, rfl, Nat.le_refl _, by omega, Nat.le_refl _, Nat.le_refl _, Nat.le_refl _, S1, Q1.out⟩
  case round =>
    clear S1
    obtain ⟨i, j, q, rfl, rfl, hmi, hij, hjb, hq, hkx, S1, HE⟩ := hrel
    by_cases hlt : i < j
    · have hltz : (i : Int) < (j : Int) := by omega
      obtain ⟨q, rfl⟩ : ∃ z, q = z + 1 := ⟨q - 1, by omega⟩
      obtain ⟨px, hpx⟩ : ∃ z, z = mid + r0 - 1 - (i + j) / 2 := ⟨_, rfl⟩
      have hpz : (mid : Int) + (r0 : Int) - 1 - ((i : Int) + (j : Int)) / 2 = (px : Int) := by omega
      have hpl : px < sz := by omega
      have HPX : Hid (px = mid + r0 - 1 - (i + j) / 2) := hpx
      clear hpx
      cases hlv : ltOf cf d[px]! d[(i + j) / 2]! with
      | false =>
        have HE2 : Hid (bs (fun c => !ltOf cf d[mid + r0 - 1 - c]! d[c]!) q ((i + j) / 2 + 1) j = st) := (bs_yes _ q i j hlt (by show (!ltOf cf d[mid + r0 - 1 - (i + j) / 2]! d[(i + j) / 2]!) = _; rw [← HPX.out, hlv]; rfl)).symm.trans HE.out
        clear HE
        have ea1 : ((px : Int)).toNat = px := by omega
        have pa1 : (0 : Int) ≤ (px : Int) := by omega
        have ba1 : (px : Int) < (sz : Int) := by omega
        have ra1 : IntKind.i64.wrap ((px : Int)) = (px : Int) := by rw [IntKind.wrap_i64]; omega
        have ec1 : (((i : Int) + (j : Int)) / 2).toNat = (i + j) / 2 := by omega
        have pc1 : (0 : Int) ≤ ((i : Int) + (j : Int)) / 2 := by omega
        have bc1 : ((i : Int) + (j : Int)) / 2 < (sz : Int) := by omega
        have rc1 : IntKind.i64.wrap (((i : Int) + (j : Int)) / 2) = ((i : Int) + (j : Int)) / 2 := by rw [IntKind.wrap_i64]; omega
        obtain ⟨x1, hx1⟩ : ∃ x, x = d[px]! := ⟨_, rfl⟩
        obtain ⟨y1, hy1⟩ : ∃ x, x = d[(i + j) / 2]! := ⟨_, rfl⟩
        have l1a := S1.out.ld R (by omega) P (px) (by omega)
        have l1b := S1.out.ld R (by omega) P ((i + j) / 2) (by omega)
        rw [← hx1] at l1a
        rw [← hy1] at l1b
        have hc1 := S1.out.cmp HC.out (by omega) x1 y1
        have hv1 : ¬ cf x1 y1 < 0 := by rw [hx1, hy1]; exact of_decide_eq_false hlv
        have hd1 : decide (cf x1 y1 < 0) = false := decide_eq_false hv1
        clear hx1 hy1
        go_wp2_with fail
        go_quiet_grown (first | (go_at_fn g; refine Calls.grown_of (hc1 _ _)))
        have S2 : Aside (SWK enc k w0 blk off d (grow (wr.drewN nq) osq)) := S1.out.grown nq osq
        clear l1a l1b hc1 S1
        generalize grow (wr.drewN nq) osq = w2 at S2 ⊢
        clear nq osq
        go_wp2
        go_roundg q
        case measure => omega
        case rel => exact ⟨(i + j) / 2 + 1, j, q, by go_num, rfl, by omega, by omega, hjb, by omega, Nat.le_refl _, S2, HE2⟩
      | true =>
        have HE2 : Hid (bs (fun c => !ltOf cf d[mid + r0 - 1 - c]! d[c]!) q i ((i + j) / 2) = st) := (bs_no _ q i j hlt (by show (!ltOf cf d[mid + r0 - 1 - (i + j) / 2]! d[(i + j) / 2]!) = _; rw [← HPX.out, hlv]; rfl)).symm.trans HE.out
        clear HE
        have ea1 : ((px : Int)).toNat = px := by omega
        have pa1 : (0 : Int) ≤ (px : Int) := by omega
        have ba1 : (px : Int) < (sz : Int) := by omega
        have ra1 : IntKind.i64.wrap ((px : Int)) = (px : Int) := by rw [IntKind.wrap_i64]; omega
        have ec1 : (((i : Int) + (j : Int)) / 2).toNat = (i + j) / 2 := by omega
        have pc1 : (0 : Int) ≤ ((i : Int) + (j : Int)) / 2 := by omega
        have bc1 : ((i : Int) + (j : Int)) / 2 < (sz : Int) := by omega
        have rc1 : IntKind.i64.wrap (((i : Int) + (j : Int)) / 2) = ((i : Int) + (j : Int)) / 2 := by rw [IntKind.wrap_i64]; omega
        obtain ⟨x1, hx1⟩ : ∃ x, x = d[px]! := ⟨_, rfl⟩
        obtain ⟨y1, hy1⟩ : ∃ x, x = d[(i + j) / 2]! := ⟨_, rfl⟩
        have l1a := S1.out.ld R (by omega) P (px) (by omega)
        have l1b := S1.out.ld R (by omega) P ((i + j) / 2) (by omega)
        rw [← hx1] at l1a
        rw [← hy1] at l1b
        have hc1 := S1.out.cmp HC.out (by omega) x1 y1
        have hv1 : cf x1 y1 < 0 := by rw [hx1, hy1]; exact of_decide_eq_true hlv
        have hd1 : decide (cf x1 y1 < 0) = true := decide_eq_true hv1
        clear hx1 hy1
        go_wp2_with fail
        go_quiet_grown (first | (go_at_fn g; refine Calls.grown_of (hc1 _ _)))
        have S2 : Aside (SWK enc k w0 blk off d (grow (wr.drewN nq) osq)) := S1.out.grown nq osq
        clear l1a l1b hc1 S1
        generalize grow (wr.drewN nq) osq = w2 at S2 ⊢
        clear nq osq
        go_wp2
        go_roundg q
        case measure => omega
        case rel => exact ⟨i, (i + j) / 2, q, rfl, by go_num, hmi, by omega, by omega, by omega, Nat.le_refl _, S2, HE2⟩
    · have hltz : ¬ (i : Int) < (j : Int) := by omega
      obtain rfl : st = i := HE.out.symm.trans (bs_end _ q i j hlt)
      clear HE
      obtain ⟨tb, htb⟩ : ∃ t : Bool, t = decide (st < r0 ∧ r0 < e) := ⟨_, rfl⟩
      have HTB : Hid (tb = decide (st < r0 ∧ r0 < e)) := htb
      clear htb
      go_upto_region 39 with fail
      go_cut [185] from 25 (fun s wc => s = .bool tb ∧ Aside (SWK enc k w0 blk off d wc))
      case first =>
        by_cases c1 : st < r0
        · have c1z : (st : Int) < (r0 : Int) := by omega
          by_cases c2 : r0 < e
          · have c2z : (r0 : Int) < (e : Int) := by omega
            go_wp2_with fail
            go_meet
            case rel => exact ⟨by rw [HTB.out]; simp [c1, c2], S1⟩
          · have c2z : ¬ (r0 : Int) < (e : Int) := by omega
            go_wp2_with fail
            go_meet
            case rel => exact ⟨by rw [HTB.out]; simp [c1, c2], S1⟩
        · have c1z : ¬ (st : Int) < (r0 : Int) := by omega
          go_wp2_with fail
          go_meet
          case rel => exact ⟨by rw [HTB.out]; simp [c1], S1⟩
      case rest =>
        as_aux_lemma =>
          clear S1
          obtain ⟨rfl, S1⟩ := hcut
          go_upto_if 185 with fail
          go_cut [] from 25 (fun wc => Aside (SWK enc k w0 blk off d1 wc))
          case first =>
            cases tb with
            | true =>
              have C1 := Aside0_mk (of_decide_eq_true HTB.out.symm)
              go_wp2_with (go_at_fn 126; refine (rotateCmpFunc L k aE zE enc g cb blk off sz cap st r0 e _ _ _ rfl rfl rfl d0 d w0 _ R hs hd S1.out C1.out.1 C1.out.2 (by omega) hsz).mono ?_; rintro e' w2 ⟨rfl, hS2⟩; have S2 : Aside _ := hS2; clear hS2)
              go_meet
              case rel => exact (by have h_ := Q2.out; rw [if_pos C1.out] at h_; exact h_ ▸ S2.out)
            | false =>
              have C1 := Aside0_mk (of_decide_eq_false HTB.out.symm)
              go_wp2_with fail
              go_meet
              case rel => exact (by have h_ := Q2.out; rw [if_neg C1.out] at h_; exact h_ ▸ S1.out)
          case rest =>
            as_aux_lemma =>
              have S4 := hcut
              clear hcut S1
              have S3 := S4
              clear S4
              clear HTB
              obtain ⟨tb, htb⟩ : ∃ t : Bool, t = decide (s0 < st ∧ st < mid) := ⟨_, rfl⟩
              have HTB : Hid (tb = decide (s0 < st ∧ st < mid)) := htb
              clear htb
              go_upto_region 41 with fail
              go_cut [199] from 25 (fun s wc => s = .bool tb ∧ Aside (SWK enc k w0 blk off d1 wc))
              case first =>
                by_cases c1 : s0 < st
                · have c1z : (s0 : Int) < (st : Int) := by omega
                  by_cases c2 : st < mid
                  · have c2z : (st : Int) < (mid : Int) := by omega
                    go_wp2_with fail
                    go_meet
                    case rel => exact ⟨by rw [HTB.out]; simp [c1, c2], S3⟩
                  · have c2z : ¬ (st : Int) < (mid : Int) := by omega
                    go_wp2_with fail
                    go_meet
                    case rel => exact ⟨by rw [HTB.out]; simp [c1, c2], S3⟩
                · have c1z : ¬ (s0 : Int) < (st : Int) := by omega
                  go_wp2_with fail
                  go_meet
                  case rel => exact ⟨by rw [HTB.out]; simp [c1], S3⟩
              case rest =>
                as_aux_lemma =>
                  clear S3
                  obtain ⟨rfl, S3⟩ := hcut
                  go_upto_if 199 with fail
                  go_cut [] from 25 (fun wc => Aside (SWK enc k w0 blk off d2 wc))
                  case first =>
                    cases tb with
                    | true =>
                      have C1 := Aside0_mk (of_decide_eq_true HTB.out.symm)
                      go_wp2_with (go_at_fn 124; refine (IHh.out s0 st mid _ _ _ rfl rfl rfl d1 _ hsz1 S3.out C1.out.1 C1.out.2 (by omega) (by omega)).mono ?_; rintro e' w2 ⟨rfl, hS2⟩; have S2 : Aside _ := hS2; clear hS2)
                      go_meet
                      case rel => exact (by have h_ := Q3.out; rw [if_pos C1.out] at h_; exact h_ ▸ S2.out)
                    | false =>
                      have C1 := Aside0_mk (of_decide_eq_false HTB.out.symm)
                      go_wp2_with fail
                      go_meet
                      case rel => exact (by have h_ := Q3.out; rw [if_neg C1.out] at h_; exact h_ ▸ S3.out)
                  case rest =>
                    as_aux_lemma =>
                      have S4 := hcut
                      clear hcut S3
                      have S3 := S4
                      clear S4
                      clear HTB
                      obtain ⟨tb, htb⟩ : ∃ t : Bool, t = decide (mid < e ∧ e < b) := ⟨_, rfl⟩
                      have HTB : Hid (tb = decide (mid < e ∧ e < b)) := htb
                      clear htb
                      go_upto_region 43 with fail
                      go_cut [213] from 25 (fun s wc => s = .bool tb ∧ Aside (SWK enc k w0 blk off d2 wc))
                      case first =>
                        by_cases c1 : mid < e
                        · have c1z : (mid : Int) < (e : Int) := by omega
                          by_cases c2 : e < b
                          · have c2z : (e : Int) < (b : Int) := by omega
                            go_wp2_with fail
                            go_meet
                            case rel => exact ⟨by rw [HTB.out]; simp [c1, c2], S3⟩
                          · have c2z : ¬ (e : Int) < (b : Int) := by omega
                            go_wp2_with fail
                            go_meet
                            case rel => exact ⟨by rw [HTB.out]; simp [c1, c2], S3⟩
                        · have c1z : ¬ (mid : Int) < (e : Int) := by omega
                          go_wp2_with fail
                          go_meet
                          case rel => exact ⟨by rw [HTB.out]; simp [c1], S3⟩
                      case rest =>
                        as_aux_lemma =>
                          clear S3
                          obtain ⟨rfl, S3⟩ := hcut
                          go_upto_if 213 with fail
                          cases tb with
                          | true =>
                            have C1 := Aside0_mk (of_decide_eq_true HTB.out.symm)
                            go_wp2_with (go_at_fn 124; refine (IHh.out mid e b _ _ _ rfl rfl rfl d2 _ hsz2 S3.out C1.out.1 C1.out.2 (by omega) (by omega)).mono ?_; rintro e' w2 ⟨rfl, hS2⟩; have S2 : Aside _ := hS2; clear hS2)
                            go_end0
                            refine ⟨rfl, ?_⟩
                            rw [HS.out, if_pos C1.out]
                            exact S2.out
                          | false =>
                            have C1 := Aside0_mk (of_decide_eq_false HTB.out.symm)
                            go_wp2_with fail
                            go_end0
                            refine ⟨rfl, ?_⟩
                            rw [HS.out, if_neg C1.out]
                            exact S3.out

theorem symMergeCmpFunc (L : Lays P) (k : Nat) (aE : ∀ w, (isAgg 53).run P w = .ok true w) (zE : ∀ w, (Go.sizeOf 53).run P w = .ok k w) (enc : α → List Value) (cf : α → α → Int) (g : Nat) (cb : Array Value) (blk off sz : Nat) (w0 : World) (eg : ∀ args w, (callFunc g args).run P w = .ok (.enter g args) w) (hcmp : CmpLays P g cb enc k cf blk off sz w0) (cap : Nat) (d0 : Array α) (R : RowK enc k w0 blk off d0) (hs : d0.size = sz) (hsz : sz < 4611686018427387904)
    : ∀ (f : Nat) (a m b : Nat) (az mz bz : Int) (haz : az = a) (hmz : mz = m) (hbz : bz = b) (d : Array α) (w : World) (hd : d.size = sz) (S : SWK enc k w0 blk off d w) (h1 : a < m) (h2 : m < b) (h3 : b ≤ sz) (hF : b - a ≤ f),
    Calls P 124 #[.slice (some ⟨blk, off, none⟩) sz cap, .int .i64 az, .int .i64 mz, .int .i64 bz, .func (.func g) #[] cb] w fun e w' => e = .returned (.tuple #[]) ∧ SWK enc k w0 blk off (symMerge (ltOf cf) f d a m b) w' := by
  intro f
  induction f with
  | zero => intro a m b az mz bz haz hmz hbz d w hd S h1 h2 h3 hF; omega
  | succ f ih =>
    intro a m b az mz bz haz hmz hbz d w hd S h1 h2 h3 hF
    by_cases c1 : m - a = 1
    · exact symMerge_left L k aE zE enc cf g cb blk off sz w0 eg hcmp cap a m b az mz bz haz hmz hbz d0 d w R hs hd S h1 h2 h3 hsz c1 f
    · by_cases c2 : b - m = 1
      · exact symMerge_right L k aE zE enc cf g cb blk off sz w0 eg hcmp cap a m b az mz bz haz hmz hbz d0 d w R hs hd S h1 h2 h3 hsz c1 c2 f
      · by_cases c3 : (a + b) / 2 < m
        · exact symMerge_step0 L k aE zE enc cf g cb blk off sz w0 eg hcmp cap a m b az mz bz haz hmz hbz d0 d w R hs hd S h1 h2 h3 hsz c1 c2 f hF c3 ih
        · exact symMerge_step1 L k aE zE enc cf g cb blk off sz w0 eg hcmp cap a m b az mz bz haz hmz hbz d0 d w R hs hd S h1 h2 h3 hsz c1 c2 f hF c3 ih
#print axioms symMergeCmpFunc
end Go.Proofs.Ytghommaokdhjmaa.SortF
/- Plain law: the blocks of slices.stableCmpFunc: sorted blocks of s merge to sorted blocks of 2s; one block is the whole. -/
set_option linter.unusedVariables false
namespace Go.Proofs.SymP
open Go.Sort
variable {α : Type} [Inhabited α] {lt : α → α → Bool}

def BS (lt : α → α → Bool) (s n : Nat) (d : Array α) : Prop := ∀ x, s ∣ x → SortedIn lt x (min (x + s) n) d
def Fst (lt : α → α → Bool) (a : Nat) (d : Array α) : Prop := ∀ x, 20 ∣ x → x < a → SortedIn lt x (x + 20) d
def Half (lt : α → α → Bool) (s n a : Nat) (d : Array α) : Prop := (∀ x, 2 * s ∣ x → x < a → SortedIn lt x (x + 2 * s) d) ∧ (∀ x, s ∣ x → a ≤ x → SortedIn lt x (min (x + s) n) d)

theorem sortedIn_empty {a b : Nat} {d : Array α} (h : b ≤ a) : SortedIn lt a b d := fun i j h1 h2 h3 => by omega
theorem permIn_wide {d d' : Array α} {a b n : Nat} (h : PermIn a b d d') (hb : b ≤ n) (hn : n ≤ d.size) : PermIn 0 n d d' := permIn_mono d d' a b 0 n (Nat.zero_le _) hb hn h
theorem gap {s x a : Nat} (h1 : s ∣ a) (h2 : s ∣ x) (h : a < x) : a + s ≤ x := by
  have h3 : s ∣ x - a := Nat.dvd_sub h2 h1
  have := Nat.le_of_dvd (by omega) h3
  omega

theorem fst_step (H : SWO lt) {n a : Nat} {d : Array α} (hF : Fst lt a d) (h20 : 20 ∣ a) (h1 : a + 20 ≤ n) (hn : n ≤ d.size) :
    PermIn 0 n d (insertionSort lt d a (a + 20)) ∧ Fst lt (a + 20) (insertionSort lt d a (a + 20)) := by
  obtain ⟨hp, hs⟩ := insertionSort_holds (lt := lt) H d a (a + 20) (by omega) (by omega)
  refine ⟨permIn_wide hp h1 hn, fun x hx hxa => ?_⟩
  by_cases e : x = a
  · rw [e]; exact hs
  · have hlt : x < a := by
      rcases Nat.lt_or_ge x a with h | h
      · exact h
      · have := gap h20 hx (by omega)
        omega
    have h5 := gap hx h20 hlt
    exact sortedIn_congr (hF x hx hlt) (fun i _ h2 => hp.2.1 i (.inl (by omega)))
theorem fst_last (H : SWO lt) {n a : Nat} {d : Array α} (hF : Fst lt a d) (h20 : 20 ∣ a) (h1 : a ≤ n) (h2 : n < a + 20) (hn : n ≤ d.size) :
    PermIn 0 n d (insertionSort lt d a n) ∧ BS lt 20 n (insertionSort lt d a n) := by
  obtain ⟨hp, hs⟩ := insertionSort_holds (lt := lt) H d a n h1 hn
  refine ⟨permIn_wide hp (Nat.le_refl _) hn, fun x hx => ?_⟩
  rcases Nat.lt_trichotomy x a with h | h | h
  · have h5 := gap hx h20 h
    exact sortedIn_sub (sortedIn_congr (hF x hx h) (fun i _ h2 => hp.2.1 i (.inl (by omega)))) (Nat.le_refl _) (by omega)
  · rw [h, Nat.min_eq_right (by omega)]; exact hs
  · have := gap h20 hx h
    exact sortedIn_empty (by omega)
theorem bs_half {s n : Nat} {d : Array α} (h : BS lt s n d) : Half lt s n 0 d := ⟨fun x _ h => by omega, fun x hx _ => h x hx⟩
theorem bs_all {s n : Nat} {d : Array α} (h : BS lt s n d) (hs : n ≤ s) : SortedIn lt 0 n d := by
  have := h 0 (Nat.dvd_zero _)
  rwa [Nat.zero_add, Nat.min_eq_right hs] at this
theorem half_step (H : SWO lt) {s n a : Nat} {d : Array α} (hH : Half lt s n a d) (hs : 1 ≤ s) (h2 : 2 * s ∣ a) (h1 : a + 2 * s ≤ n) (hn : n ≤ d.size) :
    PermIn 0 n d (symMerge lt (a + 2 * s - a) d a (a + s) (a + 2 * s)) ∧ Half lt s n (a + 2 * s) (symMerge lt (a + 2 * s - a) d a (a + s) (a + 2 * s)) := by
  have hsa : s ∣ a := Nat.dvd_trans (Nat.dvd_mul_left s 2) h2
  have e1 := hH.2 a hsa (Nat.le_refl _)
  rw [Nat.min_eq_left (by omega)] at e1
  have e2 := hH.2 (a + s) (Nat.dvd_add hsa (Nat.dvd_refl _)) (by omega)
  rw [Nat.min_eq_left (by omega)] at e2
  have e3 : a + s + s = a + 2 * s := by omega
  rw [e3] at e2
  obtain ⟨hp, hso⟩ := symMerge_ok H (a + 2 * s - a) d a (a + s) (a + 2 * s) (Nat.le_refl _) (by omega) (by omega) (by omega) e1 e2
  refine ⟨permIn_wide hp h1 hn, fun x hx hxa => ?_, fun x hx hxa => ?_⟩
  · rcases Nat.lt_trichotomy x a with h | h | h
    · have := gap hx h2 h
      exact sortedIn_congr (hH.1 x hx h) (fun i _ h2 => hp.2.1 i (.inl (by omega)))
    · rw [h]; exact hso
    · have := gap h2 hx h
      omega
  · exact sortedIn_congr (hH.2 x hx (by omega)) (fun i h3 _ => hp.2.1 i (.inr (by omega)))
theorem half_none {s n a : Nat} {d : Array α} (hH : Half lt s n a d) (h2 : 2 * s ∣ a) (h1 : n < a + 2 * s) (h3 : ¬ a + s < n) : BS lt (2 * s) n d := fun x hx => by
  have hsa : s ∣ a := Nat.dvd_trans (Nat.dvd_mul_left s 2) h2
  rcases Nat.lt_trichotomy x a with h | h | h
  · exact sortedIn_sub (hH.1 x hx h) (Nat.le_refl _) (by omega)
  · have e1 := hH.2 a hsa (Nat.le_refl _)
    rw [h]
    exact sortedIn_sub e1 (Nat.le_refl _) (by omega)
  · have := gap h2 hx h
    exact sortedIn_empty (by omega)
theorem half_last (H : SWO lt) {s n a : Nat} {d : Array α} (hH : Half lt s n a d) (hs : 1 ≤ s) (h2 : 2 * s ∣ a) (h1 : n < a + 2 * s) (h3 : a + s < n) (hn : n ≤ d.size) :
    PermIn 0 n d (symMerge lt (n - a) d a (a + s) n) ∧ BS lt (2 * s) n (symMerge lt (n - a) d a (a + s) n) := by
  have hsa : s ∣ a := Nat.dvd_trans (Nat.dvd_mul_left s 2) h2
  have e1 := hH.2 a hsa (Nat.le_refl _)
  rw [Nat.min_eq_left (by omega)] at e1
  have e2 := hH.2 (a + s) (Nat.dvd_add hsa (Nat.dvd_refl _)) (by omega)
  rw [Nat.min_eq_right (by omega)] at e2
  obtain ⟨hp, hso⟩ := symMerge_ok H (n - a) d a (a + s) n (Nat.le_refl _) (by omega) h3 hn e1 e2
  refine ⟨permIn_wide hp (Nat.le_refl _) hn, fun x hx => ?_⟩
  rcases Nat.lt_trichotomy x a with h | h | h
  · have := gap hx h2 h
    exact sortedIn_sub (sortedIn_congr (hH.1 x hx h) (fun i _ h2 => hp.2.1 i (.inl (by omega)))) (Nat.le_refl _) (by omega)
  · rw [h, Nat.min_eq_right (by omega)]; exact hso
  · have := gap h2 hx h
    exact sortedIn_empty (by omega)
end Go.Proofs.SymP
/- The walk of slices.SortStableFunc's family at []api.Fact: stableCmpFunc and SortStableFunc; what is asked: the comparing function's contract (it may lay blocks), how the row lies. -/
set_option linter.unusedVariables false
set_option linter.unusedSimpArgs false
namespace Go.Proofs.Ytghommaokdhjmaa.SortF
open Go.Shelf Go.RowKit Go.Lib Go.Sort Go.Proofs.SymP
variable {P : Program} {α : Type} [Inhabited α]
/-- The shelf's names at this translation. -/
def ren : Ren := ⟨fun x => if x = 20 then 123 else x, fun x => if x = 24 then 53 else if x = 22 then 46 else if x = 25 then 66 else if x = 3 then 3 else if x = 4 then 4 else x, fun x => x⟩
set_option maxRecDepth 1000000 in
theorem laysI : SlLaysF0.n20 Try.prog ren := by
  refine ⟨by kernel_rfl, ⟨ "slices.insertionSortCmpFunc[constable/api.Fact]", by decide, by kernel_rfl⟩, ?_, ?_, ?_, ?_, ?_, ?_, ?_, ?_, ?_, ?_, ?_, ?_, ?_, ?_, ?_, ?_, ?_, ?_, ?_, ?_⟩ <;> first | kernel_rfl | (intro w; kernel_rfl)

theorem insertionSortCmpFunc (LI : SlLaysF0.n20 P ren) (k : Nat) (aE : ∀ w, (isAgg 53).run P w = .ok true w) (zE : ∀ w, (Go.sizeOf 53).run P w = .ok k w) (enc : α → List Value) (cf : α → α → Int) (g : Nat) (cb : Array Value) (blk off sz : Nat) (w0 : World) (eg : ∀ args w, (callFunc g args).run P w = .ok (.enter g args) w) (hcmp : CmpLays P g cb enc k cf blk off sz w0) (cap a b : Nat) (az bz : Int) (haz : az = a) (hbz : bz = b) (d0 d : Array α) (w : World)
    (R : RowK enc k w0 blk off d0) (hs : d0.size = sz) (hd : d.size = sz) (S : SWK enc k w0 blk off d w) (hO : SWO (ltOf cf)) (hab : a ≤ b) (hb : b ≤ sz) (hsz : sz < 4611686018427387904) :
    Calls P 123 #[.slice (some ⟨blk, off, none⟩) sz cap, .int .i64 az, .int .i64 bz, .func (.func g) #[] cb] w fun e w' => e = .returned (.tuple #[]) ∧ SWK enc k w0 blk off (Go.Sort.insertionSort (ltOf cf) d a b) w' := by
  subst haz hbz hd
  have hs' : (Go.Sort.insertionSort (ltOf cf) d a b).size = d.size := (insertionSort_holds hO d a b hab hb).1.1
  have hC : CmpLays P g cb enc k cf blk off d.size w := fun m os dk hdk x y => by
    obtain ⟨n0, os0, rfl⟩ := S
    rw [sortWorldK_on enc k w0 blk off n0 m d dk os0 os R.hblk hdk]
    exact hcmp _ _ dk (by omega) x y
  refine (AnyQ.insertionSortCmpFunc (ρ := ren) LI k aE zE enc R.hk R.h1 cf g cb blk off cap a b d w eg hC (S.holds R.hblk R.hH hs.symm) (S.lt R.hblk) hab hb hsz).mono ?_
  rintro e w' ⟨rfl, n, os, rfl⟩
  exact ⟨rfl, S.on R.hblk n _ os hs'⟩
/-- A row that is a rearrangement of another one, and what else is known of it. -/
def Mid (n : Nat) (d dk : Array α) (q : Prop) : Prop := PermIn 0 n d dk ∧ dk.size = n ∧ q
theorem Mid.go {n : Nat} {d dk dk2 : Array α} {q r : Prop} (h : Mid n d dk q) (hp : PermIn 0 n dk dk2 ∧ r) : Mid n d dk2 r := ⟨permIn_trans _ _ _ _ _ h.1 hp.1, hp.1.1.trans h.2.1, hp.2⟩
theorem Mid.to {n : Nat} {d dk : Array α} {q r : Prop} (h : Mid n d dk q) (hr : r) : Mid n d dk r := ⟨h.1, h.2.1, hr⟩

set_option maxHeartbeats 16000000 in
set_option maxRecDepth 1000000 in
theorem stableCmpFunc (LI : SlLaysF0.n20 P ren) (L : Lays P) (k : Nat) (aE : ∀ w, (isAgg 53).run P w = .ok true w) (zE : ∀ w, (Go.sizeOf 53).run P w = .ok k w) (enc : α → List Value) (cf : α → α → Int) (g : Nat) (cb : Array Value) (blk off sz : Nat) (w0 : World) (eg : ∀ args w, (callFunc g args).run P w = .ok (.enter g args) w) (hcmp : CmpLays P g cb enc k cf blk off sz w0)
    (cap : Nat) (nz : Int) (hnz : nz = sz) (d0 d : Array α) (w : World)
    (R : RowK enc k w0 blk off d0) (hs : d0.size = sz) (hd : d.size = sz) (S : SWK enc k w0 blk off d w) (hO : SWO (ltOf cf)) (hsz : sz < 1152921504606846976) :
    Calls P 114 #[.slice (some ⟨blk, off, none⟩) sz cap, .int .i64 nz, .func (.func g) #[] cb] w fun e w' => e = .returned (.tuple #[]) ∧ ∃ d', SWK enc k w0 blk off d' w' ∧ PermIn 0 sz d d' ∧ SortedIn (ltOf cf) 0 sz d' := by
  subst hnz
  have mixed := L.mixed; have t0 := L.t0; have a0 := L.a0; have z0 := L.z0; have v0 := L.v0; have tI := L.tI; have aI := L.aI; have zI := L.zI; have vI := L.vI; have tB := L.tB; have aB := L.aB; have zB := L.zB; have vB := L.vB; have tS := L.tS; have aS := L.aS; have zS := L.zS; have vS := L.vS; have tF := L.tF; have aF := L.aF; have zF := L.zF; have vF := L.vF; have tU := L.tU; have aU := L.aU; have zU := L.zU; have vU := L.vU
  have FG := L.Fst
  have HC : Aside _ := hcmp
  clear hcmp
  have S0 : Aside (SWK enc k w0 blk off d w) := S
  clear S
  have ei : ∀ args w, (callFunc 123 args).run P w = .ok (.enter 123 args) w := LI.f20.enters rfl
  have em : ∀ args w, (callFunc 124 args).run P w = .ok (.enter 124 args) w := enters_of L.Fsm (by kernel_rfl) rfl
  go_enter FG, Try.ntmps114
  go_wp2
  go_loopg [7, 8] sz (fun kx s7 s8 wr => ∃ (a q : Nat) (dk : Array α), s7 = .int .i64 a ∧ s8 = .int .i64 ((a : Int) + 20) ∧ a ≤ sz ∧ sz - a ≤ q ∧ q ≤ kx ∧ 20 ∣ a ∧ Aside (SWK enc k w0 blk off dk wr) ∧ Hid (Mid sz d dk (Fst (ltOf cf) a dk)))
  case atStart => exact ⟨0, sz, d, rfl, rfl, Nat.zero_le _, by omega, Nat.le_refl _, Nat.dvd_zero _, S0, ⟨permIn_refl _ _ _, hd, fun x _ h => absurd h (Nat.not_lt_zero _)⟩⟩
  case round =>
    clear S0
    obtain ⟨a, q, dk, rfl, rfl, hal, hq, hkx, h20, S1, HM⟩ := hrel
    by_cases hb : a + 20 ≤ sz
    · have hbz : (a : Int) + 20 ≤ (sz : Int) := by omega
      go_wp2_with (go_at_fn 123; refine (insertionSortCmpFunc LI k aE zE enc cf g cb blk off sz w0 eg HC.out cap (a) (a + 20) _ _ (by omega) (by omega) d0 dk _ R hs HM.out.2.1 S1.out hO (by omega) (by omega) (by omega)).mono ?_; rintro e w2 ⟨rfl, hS2⟩; have S2 : Aside _ := hS2; clear hS2 S1)
      go_roundg (q - 20)
      case measure => omega
      case rel => exact ⟨a + 20, q - 20, _, by go_num, by go_num, hb, by omega, Nat.le_refl _, Nat.dvd_add h20 (Nat.dvd_refl _), S2, HM.out.go (fst_step hO HM.out.2.2 h20 hb (Nat.le_of_eq HM.out.2.1.symm))⟩
    · have hbz : ¬ (a : Int) + 20 ≤ (sz : Int) := by omega
      go_wp2_with (go_at_fn 123; refine (insertionSortCmpFunc LI k aE zE enc cf g cb blk off sz w0 eg HC.out cap (a) (sz) _ _ (by omega) (by omega) d0 dk _ R hs HM.out.2.1 S1.out hO (by omega) (by omega) (by omega)).mono ?_; rintro e w2 ⟨rfl, hS2⟩; have S2 : Aside _ := hS2; clear hS2 S1)
      have HM2 : Hid (Mid sz d (Go.Sort.insertionSort (ltOf cf) dk a sz) (BS (ltOf cf) 20 sz (Go.Sort.insertionSort (ltOf cf) dk a sz))) := HM.out.go (fst_last hO HM.out.2.2 h20 hal (by omega) (Nat.le_of_eq HM.out.2.1.symm))
      clear HM
      generalize Go.Sort.insertionSort (ltOf cf) dk a sz = d1 at S2 HM2
      clear hbz hb h20 hkx hq hal
      go_loopg [6] sz (fun kx s6 wr => ∃ (s q : Nat) (dk : Array α), s6 = .int .i64 s ∧ 1 ≤ s ∧ sz - s ≤ q ∧ q ≤ kx ∧ Aside (SWK enc k w0 blk off dk wr) ∧ Hid (Mid sz d dk (BS (ltOf cf) s sz dk)))
      case atStart => exact ⟨20, sz, d1, rfl, by omega, by omega, Nat.le_refl _, S2, HM2⟩
      case round =>
        clear S2 HM2
        obtain ⟨s, q, dk, rfl, hs1, hq, hkx, S1, HM⟩ := hrel
        by_cases hb : s < sz
        · have hbz : (s : Int) < (sz : Int) := by omega
          go_wp2
          go_loopg [7, 8] sz (fun ky s7 s8 wr => ∃ (a p : Nat) (dk : Array α), s7 = .int .i64 a ∧ s8 = .int .i64 ((a : Int) + 2 * (s : Int)) ∧ a ≤ sz ∧ sz - a ≤ p ∧ p ≤ ky ∧ 2 * s ∣ a ∧ Aside (SWK enc k w0 blk off dk wr) ∧ Hid (Mid sz d dk (Half (ltOf cf) s sz a dk)))
          case atStart => exact ⟨0, sz, dk, rfl, by go_num, Nat.zero_le _, by omega, Nat.le_refl _, Nat.dvd_zero _, S1, HM.out.to (bs_half HM.out.2.2)⟩
          case round =>
            clear S1 HM
            obtain ⟨a, p, dk, rfl, rfl, hal, hp, hky, h2s, S1, HM⟩ := hrel
            by_cases hc : a + 2 * s ≤ sz
            · have hcz : (a : Int) + 2 * (s : Int) ≤ (sz : Int) := by omega
              go_wp2_with (go_at_fn 124; refine (symMergeCmpFunc L k aE zE enc cf g cb blk off sz w0 eg HC.out cap d0 R hs (by omega) (a + 2 * s - a) (a) (a + s) (a + 2 * s) _ _ _ (by omega) (by omega) (by omega) dk _ HM.out.2.1 S1.out (by omega) (by omega) (by omega) (Nat.le_refl _)).mono ?_; rintro e w2 ⟨rfl, hS2⟩; have S2 : Aside _ := hS2; clear hS2 S1)
              go_roundg (p - 2 * s)
              case measure => omega
              case rel => exact ⟨a + 2 * s, p - 2 * s, _, by go_num, by go_num, hc, by omega, Nat.le_refl _, Nat.dvd_add h2s (Nat.dvd_refl _), S2, HM.out.go (half_step hO HM.out.2.2 hs1 h2s hc (Nat.le_of_eq HM.out.2.1.symm))⟩
            · have hcz : ¬ (a : Int) + 2 * (s : Int) ≤ (sz : Int) := by omega
              by_cases hm : a + s < sz
              · have hmz : (a : Int) + (s : Int) < (sz : Int) := by omega
                go_wp2_with (go_at_fn 124; refine (symMergeCmpFunc L k aE zE enc cf g cb blk off sz w0 eg HC.out cap d0 R hs (by omega) (sz - a) (a) (a + s) (sz) _ _ _ (by omega) (by omega) (by omega) dk _ HM.out.2.1 S1.out (by omega) (by omega) (by omega) (Nat.le_refl _)).mono ?_; rintro e w2 ⟨rfl, hS2⟩; have S2 : Aside _ := hS2; clear hS2 S1)
                go_roundg (q - 1)
                case measure => omega
                case rel => exact ⟨2 * s, q - 1, _, by go_num, by omega, by omega, Nat.le_refl _, S2, HM.out.go (half_last hO HM.out.2.2 hs1 h2s (by omega) hm (Nat.le_of_eq HM.out.2.1.symm))⟩
              · have hmz : ¬ (a : Int) + (s : Int) < (sz : Int) := by omega
                go_wp2_with fail
                go_roundg (q - 1)
                case measure => omega
                case rel => exact ⟨2 * s, q - 1, dk, by go_num, by omega, by omega, Nat.le_refl _, S1, HM.out.to (half_none HM.out.2.2 h2s (by omega) hm)⟩
        · have hbz : ¬ (s : Int) < (sz : Int) := by omega
          go_wp2
          go_end0
          exact ⟨rfl, dk, S1.out, HM.out.1, bs_all HM.out.2.2 (by omega)⟩

set_option maxHeartbeats 4000000 in
set_option maxRecDepth 1000000 in
theorem sortStableFunc (LI : SlLaysF0.n20 P ren) (L : Lays P) (k : Nat) (aE : ∀ w, (isAgg 53).run P w = .ok true w) (zE : ∀ w, (Go.sizeOf 53).run P w = .ok k w) (enc : α → List Value) (cf : α → α → Int) (g : Nat) (cb : Array Value) (blk off sz : Nat) (w0 : World) (eg : ∀ args w, (callFunc g args).run P w = .ok (.enter g args) w) (hcmp : CmpLays P g cb enc k cf blk off sz w0)
    (cap : Nat) (d0 d : Array α) (w : World)
    (R : RowK enc k w0 blk off d0) (hs : d0.size = sz) (hd : d.size = sz) (S : SWK enc k w0 blk off d w) (hO : SWO (ltOf cf)) (hsz : sz < 1152921504606846976) :
    Calls P 95 #[.slice (some ⟨blk, off, none⟩) sz cap, .func (.func g) #[] cb] w fun e w' => e = .returned (.tuple #[]) ∧ ∃ d', SWK enc k w0 blk off d' w' ∧ PermIn 0 sz d d' ∧ SortedIn (ltOf cf) 0 sz d' := by
  have mixed := L.mixed; have t0 := L.t0; have a0 := L.a0; have z0 := L.z0; have v0 := L.v0; have tI := L.tI; have aI := L.aI; have zI := L.zI; have vI := L.vI; have tB := L.tB; have aB := L.aB; have zB := L.zB; have vB := L.vB; have tS := L.tS; have aS := L.aS; have zS := L.zS; have vS := L.vS; have tF := L.tF; have aF := L.aF; have zF := L.zF; have vF := L.vF; have tU := L.tU; have aU := L.aU; have zU := L.zU; have vU := L.vU
  have FG := L.Fss
  have HC : Aside _ := hcmp
  clear hcmp
  have S0 : Aside (SWK enc k w0 blk off d w) := S
  clear S
  have ei : ∀ args w, (callFunc 114 args).run P w = .ok (.enter 114 args) w := enters_of L.Fst (by kernel_rfl) rfl
  go_enter FG, Try.ntmps95
  go_wp2_with (go_at_fn 114; refine (stableCmpFunc LI L k aE zE enc cf g cb blk off sz w0 eg HC.out cap _ rfl d0 d _ R hs hd S0.out hO hsz).mono ?_; rintro e w2 ⟨rfl, hS2⟩; have S2 : Aside _ := hS2; clear hS2)
  go_end0
  exact ⟨rfl, S2.out⟩
#print axioms sortStableFunc
end Go.Proofs.Ytghommaokdhjmaa.SortF
