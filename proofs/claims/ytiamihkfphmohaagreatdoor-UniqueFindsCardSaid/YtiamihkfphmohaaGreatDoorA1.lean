import Derived.Test.YtiamihkfphmohaaGreatDoorProg
import Derived.Below
import Derived.Deep.Draws
import Derived.Deep.AppendLies
import Derived.Maps.AppendAt
import Derived.OwnWalk
import Derived.Laws.BytesArg
import Derived.Laws.MakeOwn
import Derived.Laws.OwnMore
import Derived.Deep.OwnRows
import Derived.Tactics
import Derived.Lib.ConvBytes
import Derived.Laws.Slices
import Derived.WalkKit
import Derived.KernelRfl
import Derived.RowKit3
import Derived.Deep.LoopGhost
import Derived.Deep.QuietTactic
import Derived.BigQuiet
import Derived.WideLaws
import Derived.Deep.DeepCutAuto
import Derived.Deep.CutBlock
import Derived.Deep.RegionHeld3
import Derived.Laws.Rows
import Derived.Lib.AppendStr
import Derived.ArgAppend
import Derived.Laws.IdiomCopy
import Derived.OrdersHeld
import Derived.Laws.BitsLemmas
import Derived.RowKit
import Derived.Test.YtiamihkfphmohaaGreatDoorWWords
import Derived.Test.YtiamihkfphmohaaGreatDoorWLast
import Derived.Test.YtiamihkfphmohaaGreatDoorWTab
import Derived.Test.YtiamihkfphmohaaGreatDoorWFour
import Derived.Test.YtiamihkfphmohaaGreatDoorWQPut
import Derived.Test.YtiamihkfphmohaaGreatDoorWApart
import Derived.Test.YtiamihkfphmohaaGreatDoorWArr
import Derived.Test.YtiamihkfphmohaaGreatDoorWZeros
import Derived.Test.YtiamihkfphmohaaGreatDoorWFoot
import Derived.Test.YtiamihkfphmohaaGreatDoorWKept
import Derived.Test.YtiamihkfphmohaaGreatDoorWShare
import Derived.Test.YtiamihkfphmohaaGreatDoorWN
import Derived.Test.YtiamihkfphmohaaGreatDoorWFootNe
import Derived.Test.YtiamihkfphmohaaGreatDoorWAt
import Derived.Test.YtiamihkfphmohaaGreatDoorWEqStruct
import Derived.Test.YtiamihkfphmohaaGreatDoorWRepsOne
import Derived.Test.YtiamihkfphmohaaGreatDoorWInv
import Derived.Test.YtiamihkfphmohaaGreatDoorWInvWords
import Derived.Test.YtiamihkfphmohaaGreatDoorWGuard
import Derived.Test.YtiamihkfphmohaaGreatDoorWNEv
import Derived.Test.YtiamihkfphmohaaGreatDoorWMore
import Derived.Lib.Hide
import Derived.WalkLawsBesides
import Derived.WalkSpells
import Derived.Lib.Bytealg
import Derived.Deep.RegionWith
import Derived.Lib.Walk
import Derived.Test.YtiamihkfphmohaaGreatDoorShelf
set_option linter.unusedVariables false
set_option linter.unusedSimpArgs false

namespace Go.Proofs.YtiamihkfphmohaaGreatDoor.PA
open Go.RowKit Go.Proofs.YtiamihkfphmohaaGreatDoorW.PrintWords Go.Proofs.YtiamihkfphmohaaGreatDoorW.PrintLast Go.Proofs.YtiamihkfphmohaaGreatDoorW.PrintMore
attribute [local go_sem] max2_int min2_int max_two min_two max_three min_three max_four min_four   -- for this text's walks alone



def errW : Option Int → Value
  | none => .nilIface
  | some c => .iface 0 (.int .i64 c)
theorem errW_none : errW none = .nilIface := rfl
theorem errW_some (c : Int) : errW (some c) = .iface 0 (.int .i64 c) := rfl

theorem info3 : (Tryz.prog.info? 3).map (fun i => (i.zero, i.size, i.bytes)) = some (some (.int .i64 0), 1, 8) := by kernel_rfl
theorem info9 : (Tryz.prog.info? 9).map (fun i => (i.zero, i.size, i.bytes)) = some (some (.string ⟨#[]⟩), 1, 16) := by kernel_rfl
theorem info34 : (Tryz.prog.info? 34).map (fun i => (i.zero, i.size, i.bytes)) = some (some (.slice none 0 0), 1, 24) := by kernel_rfl
theorem info50 : (Tryz.prog.info? 50).map (fun i => (i.zero, i.size, i.bytes)) = some (some (.agg #[(.int .i64 0), (.int .i64 0)]), 2, 16) := by kernel_rfl
theorem info52 : (Tryz.prog.info? 52).map (fun i => (i.zero, i.size, i.bytes)) = some (some (.agg #[(.int .i64 0), (.string ⟨#[]⟩), (.int .i64 0), (.slice none 0 0), (.int .i64 0), (.int .i64 0)]), 6, 72) := by kernel_rfl
theorem info58 : (Tryz.prog.info? 58).map (fun i => (i.zero, i.size, i.bytes)) = some (some (.agg #[(.slice none 0 0), (.int .i64 0), (.int .i64 0)]), 3, 40) := by kernel_rfl
theorem info82 : (Tryz.prog.info? 82).map (fun i => (i.zero, i.size, i.bytes)) = some (some (.agg #[(.int .i64 0), (.int .i64 0), (.string ⟨#[]⟩)]), 3, 32) := by kernel_rfl
theorem info115 : (Tryz.prog.info? 115).map (fun i => (i.zero, i.size, i.bytes)) = some (some (.agg #[(.int .i64 0), (.int .i64 0), (.int .i64 0)]), 3, 24) := by kernel_rfl
theorem info152 : (Tryz.prog.info? 152).map (fun i => (i.zero, i.size, i.bytes)) = some (some (.agg #[(.int .i64 0), (.int .i64 0)]), 2, 16) := by kernel_rfl
theorem info137 : (Tryz.prog.info? 137).map (fun i => (i.zero, i.size, i.bytes)) = some (some (.agg #[(.slice none 0 0), (.slice none 0 0)]), 2, 48) := by kernel_rfl
-- the values' own types
/-! #### struct type 82 -/
structure S82 where
  f0 : Int
  f1 : Int
  f2 : ByteArray
def z82 : S82 := ⟨(0 : Int), (0 : Int), (⟨#[]⟩ : ByteArray)⟩
def k82 : Kd S82 := Kd.iso (Kd.pair (Kd.int .i64) (Kd.pair (Kd.int .i64) Kd.string)) (fun x : S82 => (x.f0, x.f1, x.f2))
theorem k82_heap : Kd.Heap k82 := Kd.heap_iso _ (Kd.heap_pair (Kd.heap_int .i64) (Kd.heap_pair (Kd.heap_int .i64) Kd.heap_string))
theorem k82_open {w : World} {x : S82} {cs : List Value} (h : k82.K w x cs) : cs = [.int .i64 x.f0, .int .i64 x.f1, .string x.f2] := by
  obtain ⟨_, _, rfl, rfl, ⟨_, _, rfl, rfl, rfl⟩⟩ := h
  exact rfl
theorem k82_openM {w : World} {base : Nat} {ok : Nat → Prop} {x : S82} {cs : List Value} (h : k82.M w base ok x cs) : cs = [.int .i64 x.f0, .int .i64 x.f1, .string x.f2] := by
  obtain ⟨_, _, rfl, rfl, ⟨_, _, rfl, rfl, rfl⟩⟩ := h
  exact rfl
theorem k82_mk (w : World) (x : S82)  : k82.K w x [.int .i64 x.f0, .int .i64 x.f1, .string x.f2] := ⟨[.int .i64 x.f0], [.int .i64 x.f1, .string x.f2], rfl, rfl, ⟨[.int .i64 x.f1], [.string x.f2], rfl, rfl, rfl⟩⟩
theorem k82_mkM (w : World) (base : Nat) (ok : Nat → Prop) (x : S82)  : k82.M w base ok x [.int .i64 x.f0, .int .i64 x.f1, .string x.f2] := ⟨[.int .i64 x.f0], [.int .i64 x.f1, .string x.f2], rfl, rfl, ⟨[.int .i64 x.f1], [.string x.f2], rfl, rfl, rfl⟩⟩
theorem k82_mkF (W : World) (ok : Nat → Prop) (x : S82) : Kd.FK k82 W ok x [.int .i64 x.f0, .int .i64 x.f1, .string x.f2] := fun W2 _ => k82_mk W2 x
def rd_T82 (xs : List S82) (i : Int) : S82 := xs.getD i.toNat z82
theorem at_T82 {w : World} {A : Option Addr} {n : Nat} {xs : List S82} (h : Kd.C k82 w A n xs) (i : Int) (h0 : 0 ≤ i) (h1 : i < n) : ∃ ad , A = some ad ∧ w.cell? (ad.add (i.toNat * 3)) = some (.int .i64 (rd_T82 xs i).f0) ∧ w.cell? ⟨(ad.add (i.toNat * 3)).block, (ad.add (i.toNat * 3)).off + 1, none⟩ = some (.int .i64 (rd_T82 xs i).f1) ∧ w.cell? ⟨(ad.add (i.toNat * 3)).block, (ad.add (i.toNat * 3)).off + 2, none⟩ = some (.string (rd_T82 xs i).f2) := by
  obtain ⟨ad, c, e, _, hK, hc0⟩ := Kd.C_get h z82 i h0 h1
  have hc : ∀ j u, c[j]? = some u → w.cell? (ad.add (i.toNat * 3 + j)) = some u := hc0
  obtain rfl := k82_open hK
  exact ⟨ad, e, hc 0 _ rfl, by rw [← add_field _ _ 1 (by omega)]; exact hc 1 _ rfl, by rw [← add_field _ _ 2 (by omega)]; exact hc 2 _ rfl⟩

def rd_L3 (xs : List (List S82)) (i : Int) : (List S82) := xs.getD i.toNat ([] : List S82)
theorem at_L3 {w : World} {A : Option Addr} {n : Nat} {xs : List (List S82)} (h : Kd.C (Kd.slice 82 k82) w A n xs) (i : Int) (h0 : 0 ≤ i) (h1 : i < n) : ∃ ad A0 c0, A = some ad ∧ w.cell? (ad.add i.toNat) = some (.slice A0 (rd_L3 xs i).length c0) ∧ (rd_L3 xs i).length ≤ c0 ∧ k82.C w A0 (rd_L3 xs i).length (rd_L3 xs i) := by
  obtain ⟨ad, c, e, _, hK, hc0⟩ := Kd.C_get h ([] : List S82) i h0 h1
  have hc : ∀ j u, c[j]? = some u → w.cell? (ad.add (i.toNat * 1 + j)) = some u := hc0
  obtain ⟨A0, c0, rfl, l0, g0⟩ := hK
  exact ⟨ad, A0, c0, e, by have hq := hc 0 _ rfl; rwa [Nat.mul_one, Nat.add_zero] at hq, l0, g0⟩

/-! #### struct type 50 -/
structure S50 where
  f0 : Int
  f1 : Int
def z50 : S50 := ⟨(0 : Int), (0 : Int)⟩
def k50 : Kd S50 := Kd.iso (Kd.pair (Kd.int .i64) (Kd.int .i64)) (fun x : S50 => (x.f0, x.f1))
theorem k50_heap : Kd.Heap k50 := Kd.heap_iso _ (Kd.heap_pair (Kd.heap_int .i64) (Kd.heap_int .i64))
theorem k50_open {w : World} {x : S50} {cs : List Value} (h : k50.K w x cs) : cs = [.int .i64 x.f0, .int .i64 x.f1] := by
  obtain ⟨_, _, rfl, rfl, rfl⟩ := h
  exact rfl
theorem k50_openM {w : World} {base : Nat} {ok : Nat → Prop} {x : S50} {cs : List Value} (h : k50.M w base ok x cs) : cs = [.int .i64 x.f0, .int .i64 x.f1] := by
  obtain ⟨_, _, rfl, rfl, rfl⟩ := h
  exact rfl
theorem k50_mk (w : World) (x : S50)  : k50.K w x [.int .i64 x.f0, .int .i64 x.f1] := ⟨[.int .i64 x.f0], [.int .i64 x.f1], rfl, rfl, rfl⟩
theorem k50_mkM (w : World) (base : Nat) (ok : Nat → Prop) (x : S50)  : k50.M w base ok x [.int .i64 x.f0, .int .i64 x.f1] := ⟨[.int .i64 x.f0], [.int .i64 x.f1], rfl, rfl, rfl⟩
theorem k50_mkF (W : World) (ok : Nat → Prop) (x : S50) : Kd.FK k50 W ok x [.int .i64 x.f0, .int .i64 x.f1] := fun W2 _ => k50_mk W2 x
def rd_T50 (xs : List S50) (i : Int) : S50 := xs.getD i.toNat z50
theorem at_T50 {w : World} {A : Option Addr} {n : Nat} {xs : List S50} (h : Kd.C k50 w A n xs) (i : Int) (h0 : 0 ≤ i) (h1 : i < n) : ∃ ad , A = some ad ∧ w.cell? (ad.add (i.toNat * 2)) = some (.int .i64 (rd_T50 xs i).f0) ∧ w.cell? ⟨(ad.add (i.toNat * 2)).block, (ad.add (i.toNat * 2)).off + 1, none⟩ = some (.int .i64 (rd_T50 xs i).f1) := by
  obtain ⟨ad, c, e, _, hK, hc0⟩ := Kd.C_get h z50 i h0 h1
  have hc : ∀ j u, c[j]? = some u → w.cell? (ad.add (i.toNat * 2 + j)) = some u := hc0
  obtain rfl := k50_open hK
  exact ⟨ad, e, hc 0 _ rfl, by rw [← add_field _ _ 1 (by omega)]; exact hc 1 _ rfl⟩

/-! #### struct type 58 -/
structure S58 where
  f0 : (List S82)
  f1 : S50
def z58 : S58 := ⟨([] : List S82), z50⟩
def k58 : Kd S58 := Kd.iso (Kd.pair (Kd.slice 82 k82) k50) (fun x : S58 => (x.f0, x.f1))
theorem k58_heap : Kd.Heap k58 := Kd.heap_iso _ (Kd.heap_pair (Kd.heap_slice 82 k82_heap) k50_heap)
theorem k58_open {w : World} {x : S58} {cs : List Value} (h : k58.K w x cs) : ∃ A0 c0, cs = [.slice A0 x.f0.length c0, .int .i64 x.f1.f0, .int .i64 x.f1.f1] ∧ x.f0.length ≤ c0 ∧ k82.C w A0 x.f0.length x.f0 := by
  obtain ⟨_, _, rfl, ⟨A0, c0, rfl, l0, g0⟩, s1⟩ := h
  obtain rfl := k50_open s1
  exact ⟨A0, c0, rfl, l0, g0⟩
theorem k58_openM {w : World} {base : Nat} {ok : Nat → Prop} {x : S58} {cs : List Value} (h : k58.M w base ok x cs) : ∃ v0, cs = [v0, .int .i64 x.f1.f0, .int .i64 x.f1.f1] ∧ k82.R 82 w base ok v0 x.f0 := by
  obtain ⟨_, _, rfl, ⟨v0, rfl, g0⟩, s1⟩ := h
  obtain rfl := k50_openM s1
  exact ⟨v0, rfl, g0⟩
theorem k58_mk (w : World) (x : S58) {A0 : Option Addr} {c0 : Nat} (l0 : x.f0.length ≤ c0) (g0 : k82.C w A0 x.f0.length x.f0) : k58.K w x [.slice A0 x.f0.length c0, .int .i64 x.f1.f0, .int .i64 x.f1.f1] := ⟨[.slice A0 x.f0.length c0], [.int .i64 x.f1.f0, .int .i64 x.f1.f1], rfl, ⟨A0, c0, rfl, l0, g0⟩, (k50_mk w x.f1 )⟩
theorem k58_mkM (w : World) (base : Nat) (ok : Nat → Prop) (x : S58) {v0 : Value} (g0 : k82.R 82 w base ok v0 x.f0) : k58.M w base ok x [v0, .int .i64 x.f1.f0, .int .i64 x.f1.f1] := ⟨[v0], [.int .i64 x.f1.f0, .int .i64 x.f1.f1], rfl, ⟨v0, rfl, g0⟩, (k50_mkM w base ok x.f1 )⟩
theorem k58_openF {W : World} {ok : Nat → Prop} {x : S58} {cs : List Value} (h : Kd.FK k58 W ok x cs) : ∃ A0 c0, cs = [.slice A0 x.f0.length c0, .int .i64 x.f1.f0, .int .i64 x.f1.f1] ∧ x.f0.length ≤ c0 ∧ Kd.F k82 W ok A0 x.f0.length x.f0 := by
  obtain ⟨A0, c0, rfl, l0, _⟩ := k58_open (Kd.FK_now h)
  exact ⟨A0, c0, rfl, l0, (fun W' hW => by obtain ⟨A0_, c0_, he, l0_, g0_⟩ := k58_open (h W' hW); injection (Option.some.inj (show some (Value.slice A0 x.f0.length c0) = some (Value.slice A0_ x.f0.length c0_) from congrArg (fun l => l[0]?) he)) with ha_ _ _; rw [ha_]; exact g0_)⟩
theorem k58_mkF (W : World) (ok : Nat → Prop) (x : S58) {A0 : Option Addr} {c0 : Nat} (l0 : x.f0.length ≤ c0) (g0 : Kd.F k82 W ok A0 x.f0.length x.f0) : Kd.FK k58 W ok x [.slice A0 x.f0.length c0, .int .i64 x.f1.f0, .int .i64 x.f1.f1] := fun W2 hW => k58_mk W2 x l0 (g0 W2 hW)
def rd_T58 (xs : List S58) (i : Int) : S58 := xs.getD i.toNat z58
theorem at_T58 {w : World} {A : Option Addr} {n : Nat} {xs : List S58} (h : Kd.C k58 w A n xs) (i : Int) (h0 : 0 ≤ i) (h1 : i < n) : ∃ ad A0 c0, A = some ad ∧ w.cell? (ad.add (i.toNat * 3)) = some (.slice A0 (rd_T58 xs i).f0.length c0) ∧ w.cell? ⟨(ad.add (i.toNat * 3)).block, (ad.add (i.toNat * 3)).off + 1, none⟩ = some (.int .i64 (rd_T58 xs i).f1.f0) ∧ w.cell? ⟨(ad.add (i.toNat * 3)).block, (ad.add (i.toNat * 3)).off + 2, none⟩ = some (.int .i64 (rd_T58 xs i).f1.f1) ∧ (rd_T58 xs i).f0.length ≤ c0 ∧ k82.C w A0 (rd_T58 xs i).f0.length (rd_T58 xs i).f0 := by
  obtain ⟨ad, c, e, _, hK, hc0⟩ := Kd.C_get h z58 i h0 h1
  have hc : ∀ j u, c[j]? = some u → w.cell? (ad.add (i.toNat * 3 + j)) = some u := hc0
  obtain ⟨A0, c0, rfl, l0, g0⟩ := k58_open hK
  exact ⟨ad, A0, c0, e, hc 0 _ rfl, by rw [← add_field _ _ 1 (by omega)]; exact hc 1 _ rfl, by rw [← add_field _ _ 2 (by omega)]; exact hc 2 _ rfl, l0, g0⟩

/-! #### struct type 80 -/
structure S80 where
  f0 : ByteArray
  f1 : Int
  f2 : Bool
def z80 : S80 := ⟨(⟨#[]⟩ : ByteArray), (0 : Int), false⟩
def k80 : Kd S80 := Kd.iso (Kd.pair Kd.string (Kd.pair (Kd.int .i64) Kd.bool)) (fun x : S80 => (x.f0, x.f1, x.f2))
theorem k80_heap : Kd.Heap k80 := Kd.heap_iso _ (Kd.heap_pair Kd.heap_string (Kd.heap_pair (Kd.heap_int .i64) Kd.heap_bool))
theorem k80_open {w : World} {x : S80} {cs : List Value} (h : k80.K w x cs) : cs = [.string x.f0, .int .i64 x.f1, .bool x.f2] := by
  obtain ⟨_, _, rfl, rfl, ⟨_, _, rfl, rfl, rfl⟩⟩ := h
  exact rfl
theorem k80_openM {w : World} {base : Nat} {ok : Nat → Prop} {x : S80} {cs : List Value} (h : k80.M w base ok x cs) : cs = [.string x.f0, .int .i64 x.f1, .bool x.f2] := by
  obtain ⟨_, _, rfl, rfl, ⟨_, _, rfl, rfl, rfl⟩⟩ := h
  exact rfl
theorem k80_mk (w : World) (x : S80)  : k80.K w x [.string x.f0, .int .i64 x.f1, .bool x.f2] := ⟨[.string x.f0], [.int .i64 x.f1, .bool x.f2], rfl, rfl, ⟨[.int .i64 x.f1], [.bool x.f2], rfl, rfl, rfl⟩⟩
theorem k80_mkM (w : World) (base : Nat) (ok : Nat → Prop) (x : S80)  : k80.M w base ok x [.string x.f0, .int .i64 x.f1, .bool x.f2] := ⟨[.string x.f0], [.int .i64 x.f1, .bool x.f2], rfl, rfl, ⟨[.int .i64 x.f1], [.bool x.f2], rfl, rfl, rfl⟩⟩
theorem k80_mkF (W : World) (ok : Nat → Prop) (x : S80) : Kd.FK k80 W ok x [.string x.f0, .int .i64 x.f1, .bool x.f2] := fun W2 _ => k80_mk W2 x
def rd_T80 (xs : List S80) (i : Int) : S80 := xs.getD i.toNat z80
theorem at_T80 {w : World} {A : Option Addr} {n : Nat} {xs : List S80} (h : Kd.C k80 w A n xs) (i : Int) (h0 : 0 ≤ i) (h1 : i < n) : ∃ ad , A = some ad ∧ w.cell? (ad.add (i.toNat * 3)) = some (.string (rd_T80 xs i).f0) ∧ w.cell? ⟨(ad.add (i.toNat * 3)).block, (ad.add (i.toNat * 3)).off + 1, none⟩ = some (.int .i64 (rd_T80 xs i).f1) ∧ w.cell? ⟨(ad.add (i.toNat * 3)).block, (ad.add (i.toNat * 3)).off + 2, none⟩ = some (.bool (rd_T80 xs i).f2) := by
  obtain ⟨ad, c, e, _, hK, hc0⟩ := Kd.C_get h z80 i h0 h1
  have hc : ∀ j u, c[j]? = some u → w.cell? (ad.add (i.toNat * 3 + j)) = some u := hc0
  obtain rfl := k80_open hK
  exact ⟨ad, e, hc 0 _ rfl, by rw [← add_field _ _ 1 (by omega)]; exact hc 1 _ rfl, by rw [← add_field _ _ 2 (by omega)]; exact hc 2 _ rfl⟩

def rd_L8 (xs : List (List Int)) (i : Int) : (List Int) := xs.getD i.toNat ([] : List Int)
theorem at_L8 {w : World} {A : Option Addr} {n : Nat} {xs : List (List Int)} (h : Kd.C (Kd.slice 3 (Kd.int .i64)) w A n xs) (i : Int) (h0 : 0 ≤ i) (h1 : i < n) : ∃ ad A0 c0, A = some ad ∧ w.cell? (ad.add i.toNat) = some (.slice A0 (rd_L8 xs i).length c0) ∧ (rd_L8 xs i).length ≤ c0 ∧ (Kd.int .i64).C w A0 (rd_L8 xs i).length (rd_L8 xs i) := by
  obtain ⟨ad, c, e, _, hK, hc0⟩ := Kd.C_get h ([] : List Int) i h0 h1
  have hc : ∀ j u, c[j]? = some u → w.cell? (ad.add (i.toNat * 1 + j)) = some u := hc0
  obtain ⟨A0, c0, rfl, l0, g0⟩ := hK
  exact ⟨ad, A0, c0, e, by have hq := hc 0 _ rfl; rwa [Nat.mul_one, Nat.add_zero] at hq, l0, g0⟩

/-! #### struct type 64 -/
structure S64 where
  f0 : (List Int)
  f1 : ByteArray
def z64 : S64 := ⟨([] : List Int), (⟨#[]⟩ : ByteArray)⟩
def k64 : Kd S64 := Kd.iso (Kd.pair (Kd.slice 3 (Kd.int .i64)) Kd.string) (fun x : S64 => (x.f0, x.f1))
theorem k64_heap : Kd.Heap k64 := Kd.heap_iso _ (Kd.heap_pair (Kd.heap_slice 3 (Kd.heap_int .i64)) Kd.heap_string)
theorem k64_open {w : World} {x : S64} {cs : List Value} (h : k64.K w x cs) : ∃ A0 c0, cs = [.slice A0 x.f0.length c0, .string x.f1] ∧ x.f0.length ≤ c0 ∧ (Kd.int .i64).C w A0 x.f0.length x.f0 := by
  obtain ⟨_, _, rfl, ⟨A0, c0, rfl, l0, g0⟩, rfl⟩ := h
  exact ⟨A0, c0, rfl, l0, g0⟩
theorem k64_openM {w : World} {base : Nat} {ok : Nat → Prop} {x : S64} {cs : List Value} (h : k64.M w base ok x cs) : ∃ v0, cs = [v0, .string x.f1] ∧ (Kd.int .i64).R 3 w base ok v0 x.f0 := by
  obtain ⟨_, _, rfl, ⟨v0, rfl, g0⟩, rfl⟩ := h
  exact ⟨v0, rfl, g0⟩
theorem k64_mk (w : World) (x : S64) {A0 : Option Addr} {c0 : Nat} (l0 : x.f0.length ≤ c0) (g0 : (Kd.int .i64).C w A0 x.f0.length x.f0) : k64.K w x [.slice A0 x.f0.length c0, .string x.f1] := ⟨[.slice A0 x.f0.length c0], [.string x.f1], rfl, ⟨A0, c0, rfl, l0, g0⟩, rfl⟩
theorem k64_mkM (w : World) (base : Nat) (ok : Nat → Prop) (x : S64) {v0 : Value} (g0 : (Kd.int .i64).R 3 w base ok v0 x.f0) : k64.M w base ok x [v0, .string x.f1] := ⟨[v0], [.string x.f1], rfl, ⟨v0, rfl, g0⟩, rfl⟩
theorem k64_openF {W : World} {ok : Nat → Prop} {x : S64} {cs : List Value} (h : Kd.FK k64 W ok x cs) : ∃ A0 c0, cs = [.slice A0 x.f0.length c0, .string x.f1] ∧ x.f0.length ≤ c0 ∧ Kd.F (Kd.int .i64) W ok A0 x.f0.length x.f0 := by
  obtain ⟨A0, c0, rfl, l0, _⟩ := k64_open (Kd.FK_now h)
  exact ⟨A0, c0, rfl, l0, (fun W' hW => by obtain ⟨A0_, c0_, he, l0_, g0_⟩ := k64_open (h W' hW); injection (Option.some.inj (show some (Value.slice A0 x.f0.length c0) = some (Value.slice A0_ x.f0.length c0_) from congrArg (fun l => l[0]?) he)) with ha_ _ _; rw [ha_]; exact g0_)⟩
theorem k64_mkF (W : World) (ok : Nat → Prop) (x : S64) {A0 : Option Addr} {c0 : Nat} (l0 : x.f0.length ≤ c0) (g0 : Kd.F (Kd.int .i64) W ok A0 x.f0.length x.f0) : Kd.FK k64 W ok x [.slice A0 x.f0.length c0, .string x.f1] := fun W2 hW => k64_mk W2 x l0 (g0 W2 hW)
def rd_T64 (xs : List S64) (i : Int) : S64 := xs.getD i.toNat z64
theorem at_T64 {w : World} {A : Option Addr} {n : Nat} {xs : List S64} (h : Kd.C k64 w A n xs) (i : Int) (h0 : 0 ≤ i) (h1 : i < n) : ∃ ad A0 c0, A = some ad ∧ w.cell? (ad.add (i.toNat * 2)) = some (.slice A0 (rd_T64 xs i).f0.length c0) ∧ w.cell? ⟨(ad.add (i.toNat * 2)).block, (ad.add (i.toNat * 2)).off + 1, none⟩ = some (.string (rd_T64 xs i).f1) ∧ (rd_T64 xs i).f0.length ≤ c0 ∧ (Kd.int .i64).C w A0 (rd_T64 xs i).f0.length (rd_T64 xs i).f0 := by
  obtain ⟨ad, c, e, _, hK, hc0⟩ := Kd.C_get h z64 i h0 h1
  have hc : ∀ j u, c[j]? = some u → w.cell? (ad.add (i.toNat * 2 + j)) = some u := hc0
  obtain ⟨A0, c0, rfl, l0, g0⟩ := k64_open hK
  exact ⟨ad, A0, c0, e, hc 0 _ rfl, by rw [← add_field _ _ 1 (by omega)]; exact hc 1 _ rfl, l0, g0⟩

/-! #### struct type 191, nested in itself -/
structure S191 where
  f0 : Int
  f1 : Int
  f2 : S82
  f3 : ByteArray
  f4 : (List S191)
def z191 : S191 := ⟨(0 : Int), (0 : Int), z82, (⟨#[]⟩ : ByteArray), ([] : List S191)⟩
def F191 (d : Kd S191) : Kd S191 := Kd.iso (Kd.pair (Kd.int .i64) (Kd.pair (Kd.int .i64) (Kd.pair k82 (Kd.pair Kd.string (Kd.slice 191 d))))) (fun x : S191 => (x.f0, x.f1, x.f2, x.f3, x.f4))
theorem mono276 : Kd.Mono F191 := Kd.mono_iso _ (Kd.mono_pair (Kd.mono_const _) (Kd.mono_pair (Kd.mono_const _) (Kd.mono_pair (Kd.mono_const _) (Kd.mono_pair (Kd.mono_const _) (Kd.mono_slice 191 Kd.mono_id)))))
theorem sub276 : Kd.Sub F191 [191] := Kd.sub_iso _ (Kd.sub_pair (Kd.sub_const _ (by decide)) (Kd.sub_pair (Kd.sub_const _ (by decide)) (Kd.sub_pair (Kd.sub_const _ (by decide)) (Kd.sub_pair (Kd.sub_const _ (by decide)) (Kd.sub_slice 191 (by decide) Kd.sub_id)))))
theorem sz276 : ∀ n, (Kd.upto F191 7 [191] n).sz = 7 := Kd.upto_sz (fun _ => rfl)
def k191 : Kd S191 := Kd.fix F191 7 [191] sz276 (Kd.upto_E sub276)
theorem k191_heap : Kd.Heap k191 := Kd.heap_fix (fun _ h_ => Kd.heap_iso _ (Kd.heap_pair (Kd.heap_int .i64) (Kd.heap_pair (Kd.heap_int .i64) (Kd.heap_pair k82_heap (Kd.heap_pair Kd.heap_string (Kd.heap_slice 191 h_))))))
theorem k191_open {w : World} {x : S191} {cs : List Value} (h : k191.K w x cs) : ∃ A6 c6, cs = [.int .i64 x.f0, .int .i64 x.f1, .int .i64 x.f2.f0, .int .i64 x.f2.f1, .string x.f2.f2, .string x.f3, .slice A6 x.f4.length c6] ∧ x.f4.length ≤ c6 ∧ k191.C w A6 x.f4.length x.f4 := by
  obtain ⟨n, h⟩ := h
  cases n with
  | zero => exact h.elim
  | succ n =>
    obtain ⟨_, _, rfl, rfl, ⟨_, _, rfl, rfl, ⟨_, _, rfl, s2, ⟨_, _, rfl, rfl, ⟨A6, c6, rfl, l6, g6⟩⟩⟩⟩⟩ := h
    obtain rfl := k82_open s2
    exact ⟨A6, c6, rfl, l6, Kd.fix_C g6⟩
theorem k191_openM {w : World} {base : Nat} {ok : Nat → Prop} {x : S191} {cs : List Value} (h : k191.M w base ok x cs) : ∃ v6, cs = [.int .i64 x.f0, .int .i64 x.f1, .int .i64 x.f2.f0, .int .i64 x.f2.f1, .string x.f2.f2, .string x.f3, v6] ∧ k191.R 191 w base ok v6 x.f4 := by
  obtain ⟨n, h⟩ := h
  cases n with
  | zero => exact h.elim
  | succ n =>
    obtain ⟨_, _, rfl, rfl, ⟨_, _, rfl, rfl, ⟨_, _, rfl, s2, ⟨_, _, rfl, rfl, ⟨v6, rfl, g6⟩⟩⟩⟩⟩ := h
    obtain rfl := k82_openM s2
    exact ⟨v6, rfl, Kd.fix_R g6⟩
theorem k191_mk (w : World) (x : S191) {A6 : Option Addr} {c6 : Nat} (l6 : x.f4.length ≤ c6) (g6 : k191.C w A6 x.f4.length x.f4) : k191.K w x [.int .i64 x.f0, .int .i64 x.f1, .int .i64 x.f2.f0, .int .i64 x.f2.f1, .string x.f2.f2, .string x.f3, .slice A6 x.f4.length c6] := by
  obtain ⟨n6, q6⟩ := Kd.fix_C_back mono276 g6
  have r6 := Kd.upto_C_le mono276 sz276 (show n6 ≤ n6 by omega) q6
  exact ⟨n6 + 1, ⟨[.int .i64 x.f0], [.int .i64 x.f1, .int .i64 x.f2.f0, .int .i64 x.f2.f1, .string x.f2.f2, .string x.f3, .slice A6 x.f4.length c6], rfl, rfl, ⟨[.int .i64 x.f1], [.int .i64 x.f2.f0, .int .i64 x.f2.f1, .string x.f2.f2, .string x.f3, .slice A6 x.f4.length c6], rfl, rfl, ⟨[.int .i64 x.f2.f0, .int .i64 x.f2.f1, .string x.f2.f2], [.string x.f3, .slice A6 x.f4.length c6], rfl, (k82_mk w x.f2 ), ⟨[.string x.f3], [.slice A6 x.f4.length c6], rfl, rfl, ⟨A6, c6, rfl, l6, r6⟩⟩⟩⟩⟩⟩
theorem k191_mkM (w : World) (base : Nat) (ok : Nat → Prop) (x : S191) {v6 : Value} (g6 : k191.R 191 w base ok v6 x.f4) : k191.M w base ok x [.int .i64 x.f0, .int .i64 x.f1, .int .i64 x.f2.f0, .int .i64 x.f2.f1, .string x.f2.f2, .string x.f3, v6] := by
  obtain ⟨n6, q6⟩ := Kd.fix_R_back mono276 g6
  have r6 := Kd.upto_R_le mono276 sz276 (show n6 ≤ n6 by omega) q6
  exact ⟨n6 + 1, ⟨[.int .i64 x.f0], [.int .i64 x.f1, .int .i64 x.f2.f0, .int .i64 x.f2.f1, .string x.f2.f2, .string x.f3, v6], rfl, rfl, ⟨[.int .i64 x.f1], [.int .i64 x.f2.f0, .int .i64 x.f2.f1, .string x.f2.f2, .string x.f3, v6], rfl, rfl, ⟨[.int .i64 x.f2.f0, .int .i64 x.f2.f1, .string x.f2.f2], [.string x.f3, v6], rfl, (k82_mkM w base ok x.f2 ), ⟨[.string x.f3], [v6], rfl, rfl, ⟨v6, rfl, r6⟩⟩⟩⟩⟩⟩
theorem k191_openF {W : World} {ok : Nat → Prop} {x : S191} {cs : List Value} (h : Kd.FK k191 W ok x cs) : ∃ A6 c6, cs = [.int .i64 x.f0, .int .i64 x.f1, .int .i64 x.f2.f0, .int .i64 x.f2.f1, .string x.f2.f2, .string x.f3, .slice A6 x.f4.length c6] ∧ x.f4.length ≤ c6 ∧ Kd.F k191 W ok A6 x.f4.length x.f4 := by
  obtain ⟨A6, c6, rfl, l6, _⟩ := k191_open (Kd.FK_now h)
  exact ⟨A6, c6, rfl, l6, (fun W' hW => by obtain ⟨A6_, c6_, he, l6_, g6_⟩ := k191_open (h W' hW); injection (Option.some.inj (show some (Value.slice A6 x.f4.length c6) = some (Value.slice A6_ x.f4.length c6_) from congrArg (fun l => l[6]?) he)) with ha_ _ _; rw [ha_]; exact g6_)⟩
theorem k191_mkF (W : World) (ok : Nat → Prop) (x : S191) {A6 : Option Addr} {c6 : Nat} (l6 : x.f4.length ≤ c6) (g6 : Kd.F k191 W ok A6 x.f4.length x.f4) : Kd.FK k191 W ok x [.int .i64 x.f0, .int .i64 x.f1, .int .i64 x.f2.f0, .int .i64 x.f2.f1, .string x.f2.f2, .string x.f3, .slice A6 x.f4.length c6] := fun W2 hW => k191_mk W2 x l6 (g6 W2 hW)
def rd_T191 (xs : List S191) (i : Int) : S191 := xs.getD i.toNat z191
theorem at_T191 {w : World} {A : Option Addr} {n : Nat} {xs : List S191} (h : Kd.C k191 w A n xs) (i : Int) (h0 : 0 ≤ i) (h1 : i < n) : ∃ ad A6 c6, A = some ad ∧ w.cell? (ad.add (i.toNat * 7)) = some (.int .i64 (rd_T191 xs i).f0) ∧ w.cell? ⟨(ad.add (i.toNat * 7)).block, (ad.add (i.toNat * 7)).off + 1, none⟩ = some (.int .i64 (rd_T191 xs i).f1) ∧ w.cell? ⟨(ad.add (i.toNat * 7)).block, (ad.add (i.toNat * 7)).off + 2, none⟩ = some (.int .i64 (rd_T191 xs i).f2.f0) ∧ w.cell? ⟨(ad.add (i.toNat * 7)).block, (ad.add (i.toNat * 7)).off + 3, none⟩ = some (.int .i64 (rd_T191 xs i).f2.f1) ∧ w.cell? ⟨(ad.add (i.toNat * 7)).block, (ad.add (i.toNat * 7)).off + 4, none⟩ = some (.string (rd_T191 xs i).f2.f2) ∧ w.cell? ⟨(ad.add (i.toNat * 7)).block, (ad.add (i.toNat * 7)).off + 5, none⟩ = some (.string (rd_T191 xs i).f3) ∧ w.cell? ⟨(ad.add (i.toNat * 7)).block, (ad.add (i.toNat * 7)).off + 6, none⟩ = some (.slice A6 (rd_T191 xs i).f4.length c6) ∧ (rd_T191 xs i).f4.length ≤ c6 ∧ k191.C w A6 (rd_T191 xs i).f4.length (rd_T191 xs i).f4 := by
  obtain ⟨ad, c, e, _, hK, hc0⟩ := Kd.C_get h z191 i h0 h1
  have hc : ∀ j u, c[j]? = some u → w.cell? (ad.add (i.toNat * 7 + j)) = some u := hc0
  obtain ⟨A6, c6, rfl, l6, g6⟩ := k191_open hK
  exact ⟨ad, A6, c6, e, hc 0 _ rfl, by rw [← add_field _ _ 1 (by omega)]; exact hc 1 _ rfl, by rw [← add_field _ _ 2 (by omega)]; exact hc 2 _ rfl, by rw [← add_field _ _ 3 (by omega)]; exact hc 3 _ rfl, by rw [← add_field _ _ 4 (by omega)]; exact hc 4 _ rfl, by rw [← add_field _ _ 5 (by omega)]; exact hc 5 _ rfl, by rw [← add_field _ _ 6 (by omega)]; exact hc 6 _ rfl, l6, g6⟩

/-! #### struct type 152 -/
structure S152 where
  f0 : Int
  f1 : Int
def z152 : S152 := ⟨(0 : Int), (0 : Int)⟩
def k152 : Kd S152 := Kd.iso (Kd.pair (Kd.int .i64) (Kd.int .i64)) (fun x : S152 => (x.f0, x.f1))
theorem k152_heap : Kd.Heap k152 := Kd.heap_iso _ (Kd.heap_pair (Kd.heap_int .i64) (Kd.heap_int .i64))
theorem k152_open {w : World} {x : S152} {cs : List Value} (h : k152.K w x cs) : cs = [.int .i64 x.f0, .int .i64 x.f1] := by
  obtain ⟨_, _, rfl, rfl, rfl⟩ := h
  exact rfl
theorem k152_openM {w : World} {base : Nat} {ok : Nat → Prop} {x : S152} {cs : List Value} (h : k152.M w base ok x cs) : cs = [.int .i64 x.f0, .int .i64 x.f1] := by
  obtain ⟨_, _, rfl, rfl, rfl⟩ := h
  exact rfl
theorem k152_mk (w : World) (x : S152)  : k152.K w x [.int .i64 x.f0, .int .i64 x.f1] := ⟨[.int .i64 x.f0], [.int .i64 x.f1], rfl, rfl, rfl⟩
theorem k152_mkM (w : World) (base : Nat) (ok : Nat → Prop) (x : S152)  : k152.M w base ok x [.int .i64 x.f0, .int .i64 x.f1] := ⟨[.int .i64 x.f0], [.int .i64 x.f1], rfl, rfl, rfl⟩
theorem k152_mkF (W : World) (ok : Nat → Prop) (x : S152) : Kd.FK k152 W ok x [.int .i64 x.f0, .int .i64 x.f1] := fun W2 _ => k152_mk W2 x
def rd_T152 (xs : List S152) (i : Int) : S152 := xs.getD i.toNat z152
theorem at_T152 {w : World} {A : Option Addr} {n : Nat} {xs : List S152} (h : Kd.C k152 w A n xs) (i : Int) (h0 : 0 ≤ i) (h1 : i < n) : ∃ ad , A = some ad ∧ w.cell? (ad.add (i.toNat * 2)) = some (.int .i64 (rd_T152 xs i).f0) ∧ w.cell? ⟨(ad.add (i.toNat * 2)).block, (ad.add (i.toNat * 2)).off + 1, none⟩ = some (.int .i64 (rd_T152 xs i).f1) := by
  obtain ⟨ad, c, e, _, hK, hc0⟩ := Kd.C_get h z152 i h0 h1
  have hc : ∀ j u, c[j]? = some u → w.cell? (ad.add (i.toNat * 2 + j)) = some u := hc0
  obtain rfl := k152_open hK
  exact ⟨ad, e, hc 0 _ rfl, by rw [← add_field _ _ 1 (by omega)]; exact hc 1 _ rfl⟩

/-! #### struct type 115 -/
structure S115 where
  f0 : S50
  f1 : Int
def z115 : S115 := ⟨z50, (0 : Int)⟩
def k115 : Kd S115 := Kd.iso (Kd.pair k50 (Kd.int .i64)) (fun x : S115 => (x.f0, x.f1))
theorem k115_heap : Kd.Heap k115 := Kd.heap_iso _ (Kd.heap_pair k50_heap (Kd.heap_int .i64))
theorem k115_open {w : World} {x : S115} {cs : List Value} (h : k115.K w x cs) : cs = [.int .i64 x.f0.f0, .int .i64 x.f0.f1, .int .i64 x.f1] := by
  obtain ⟨_, _, rfl, s0, rfl⟩ := h
  obtain rfl := k50_open s0
  exact rfl
theorem k115_openM {w : World} {base : Nat} {ok : Nat → Prop} {x : S115} {cs : List Value} (h : k115.M w base ok x cs) : cs = [.int .i64 x.f0.f0, .int .i64 x.f0.f1, .int .i64 x.f1] := by
  obtain ⟨_, _, rfl, s0, rfl⟩ := h
  obtain rfl := k50_openM s0
  exact rfl
theorem k115_mk (w : World) (x : S115)  : k115.K w x [.int .i64 x.f0.f0, .int .i64 x.f0.f1, .int .i64 x.f1] := ⟨[.int .i64 x.f0.f0, .int .i64 x.f0.f1], [.int .i64 x.f1], rfl, (k50_mk w x.f0 ), rfl⟩
theorem k115_mkM (w : World) (base : Nat) (ok : Nat → Prop) (x : S115)  : k115.M w base ok x [.int .i64 x.f0.f0, .int .i64 x.f0.f1, .int .i64 x.f1] := ⟨[.int .i64 x.f0.f0, .int .i64 x.f0.f1], [.int .i64 x.f1], rfl, (k50_mkM w base ok x.f0 ), rfl⟩
theorem k115_mkF (W : World) (ok : Nat → Prop) (x : S115) : Kd.FK k115 W ok x [.int .i64 x.f0.f0, .int .i64 x.f0.f1, .int .i64 x.f1] := fun W2 _ => k115_mk W2 x
def rd_T115 (xs : List S115) (i : Int) : S115 := xs.getD i.toNat z115
theorem at_T115 {w : World} {A : Option Addr} {n : Nat} {xs : List S115} (h : Kd.C k115 w A n xs) (i : Int) (h0 : 0 ≤ i) (h1 : i < n) : ∃ ad , A = some ad ∧ w.cell? (ad.add (i.toNat * 3)) = some (.int .i64 (rd_T115 xs i).f0.f0) ∧ w.cell? ⟨(ad.add (i.toNat * 3)).block, (ad.add (i.toNat * 3)).off + 1, none⟩ = some (.int .i64 (rd_T115 xs i).f0.f1) ∧ w.cell? ⟨(ad.add (i.toNat * 3)).block, (ad.add (i.toNat * 3)).off + 2, none⟩ = some (.int .i64 (rd_T115 xs i).f1) := by
  obtain ⟨ad, c, e, _, hK, hc0⟩ := Kd.C_get h z115 i h0 h1
  have hc : ∀ j u, c[j]? = some u → w.cell? (ad.add (i.toNat * 3 + j)) = some u := hc0
  obtain rfl := k115_open hK
  exact ⟨ad, e, hc 0 _ rfl, by rw [← add_field _ _ 1 (by omega)]; exact hc 1 _ rfl, by rw [← add_field _ _ 2 (by omega)]; exact hc 2 _ rfl⟩

/-! #### struct type 232 -/
structure S232 where
  f0 : Int
  f1 : Bool
def z232 : S232 := ⟨(0 : Int), false⟩
def k232 : Kd S232 := Kd.iso (Kd.pair (Kd.int .i64) Kd.bool) (fun x : S232 => (x.f0, x.f1))
theorem k232_heap : Kd.Heap k232 := Kd.heap_iso _ (Kd.heap_pair (Kd.heap_int .i64) Kd.heap_bool)
theorem k232_open {w : World} {x : S232} {cs : List Value} (h : k232.K w x cs) : cs = [.int .i64 x.f0, .bool x.f1] := by
  obtain ⟨_, _, rfl, rfl, rfl⟩ := h
  exact rfl
theorem k232_openM {w : World} {base : Nat} {ok : Nat → Prop} {x : S232} {cs : List Value} (h : k232.M w base ok x cs) : cs = [.int .i64 x.f0, .bool x.f1] := by
  obtain ⟨_, _, rfl, rfl, rfl⟩ := h
  exact rfl
theorem k232_mk (w : World) (x : S232)  : k232.K w x [.int .i64 x.f0, .bool x.f1] := ⟨[.int .i64 x.f0], [.bool x.f1], rfl, rfl, rfl⟩
theorem k232_mkM (w : World) (base : Nat) (ok : Nat → Prop) (x : S232)  : k232.M w base ok x [.int .i64 x.f0, .bool x.f1] := ⟨[.int .i64 x.f0], [.bool x.f1], rfl, rfl, rfl⟩
theorem k232_mkF (W : World) (ok : Nat → Prop) (x : S232) : Kd.FK k232 W ok x [.int .i64 x.f0, .bool x.f1] := fun W2 _ => k232_mk W2 x
def rd_T232 (xs : List S232) (i : Int) : S232 := xs.getD i.toNat z232
theorem at_T232 {w : World} {A : Option Addr} {n : Nat} {xs : List S232} (h : Kd.C k232 w A n xs) (i : Int) (h0 : 0 ≤ i) (h1 : i < n) : ∃ ad , A = some ad ∧ w.cell? (ad.add (i.toNat * 2)) = some (.int .i64 (rd_T232 xs i).f0) ∧ w.cell? ⟨(ad.add (i.toNat * 2)).block, (ad.add (i.toNat * 2)).off + 1, none⟩ = some (.bool (rd_T232 xs i).f1) := by
  obtain ⟨ad, c, e, _, hK, hc0⟩ := Kd.C_get h z232 i h0 h1
  have hc : ∀ j u, c[j]? = some u → w.cell? (ad.add (i.toNat * 2 + j)) = some u := hc0
  obtain rfl := k232_open hK
  exact ⟨ad, e, hc 0 _ rfl, by rw [← add_field _ _ 1 (by omega)]; exact hc 1 _ rfl⟩

def rd_L15 (xs : List (List S152)) (i : Int) : (List S152) := xs.getD i.toNat ([] : List S152)
theorem at_L15 {w : World} {A : Option Addr} {n : Nat} {xs : List (List S152)} (h : Kd.C (Kd.slice 152 k152) w A n xs) (i : Int) (h0 : 0 ≤ i) (h1 : i < n) : ∃ ad A0 c0, A = some ad ∧ w.cell? (ad.add i.toNat) = some (.slice A0 (rd_L15 xs i).length c0) ∧ (rd_L15 xs i).length ≤ c0 ∧ k152.C w A0 (rd_L15 xs i).length (rd_L15 xs i) := by
  obtain ⟨ad, c, e, _, hK, hc0⟩ := Kd.C_get h ([] : List S152) i h0 h1
  have hc : ∀ j u, c[j]? = some u → w.cell? (ad.add (i.toNat * 1 + j)) = some u := hc0
  obtain ⟨A0, c0, rfl, l0, g0⟩ := hK
  exact ⟨ad, A0, c0, e, by have hq := hc 0 _ rfl; rwa [Nat.mul_one, Nat.add_zero] at hq, l0, g0⟩

/-! #### struct type 137 -/
structure S137 where
  f0 : (List S82)
  f1 : (List S152)
def z137 : S137 := ⟨([] : List S82), ([] : List S152)⟩
def k137 : Kd S137 := Kd.iso (Kd.pair (Kd.slice 82 k82) (Kd.slice 152 k152)) (fun x : S137 => (x.f0, x.f1))
theorem k137_heap : Kd.Heap k137 := Kd.heap_iso _ (Kd.heap_pair (Kd.heap_slice 82 k82_heap) (Kd.heap_slice 152 k152_heap))
theorem k137_open {w : World} {x : S137} {cs : List Value} (h : k137.K w x cs) : ∃ A0 c0 A1 c1, cs = [.slice A0 x.f0.length c0, .slice A1 x.f1.length c1] ∧ x.f0.length ≤ c0 ∧ k82.C w A0 x.f0.length x.f0 ∧ x.f1.length ≤ c1 ∧ k152.C w A1 x.f1.length x.f1 := by
  obtain ⟨_, _, rfl, ⟨A0, c0, rfl, l0, g0⟩, ⟨A1, c1, rfl, l1, g1⟩⟩ := h
  exact ⟨A0, c0, A1, c1, rfl, l0, g0, l1, g1⟩
theorem k137_openM {w : World} {base : Nat} {ok : Nat → Prop} {x : S137} {cs : List Value} (h : k137.M w base ok x cs) : ∃ v0 v1, cs = [v0, v1] ∧ k82.R 82 w base ok v0 x.f0 ∧ k152.R 152 w base ok v1 x.f1 := by
  obtain ⟨_, _, rfl, ⟨v0, rfl, g0⟩, ⟨v1, rfl, g1⟩⟩ := h
  exact ⟨v0, v1, rfl, g0, g1⟩
theorem k137_mk (w : World) (x : S137) {A0 : Option Addr} {c0 : Nat} (l0 : x.f0.length ≤ c0) (g0 : k82.C w A0 x.f0.length x.f0) {A1 : Option Addr} {c1 : Nat} (l1 : x.f1.length ≤ c1) (g1 : k152.C w A1 x.f1.length x.f1) : k137.K w x [.slice A0 x.f0.length c0, .slice A1 x.f1.length c1] := ⟨[.slice A0 x.f0.length c0], [.slice A1 x.f1.length c1], rfl, ⟨A0, c0, rfl, l0, g0⟩, ⟨A1, c1, rfl, l1, g1⟩⟩
theorem k137_mkM (w : World) (base : Nat) (ok : Nat → Prop) (x : S137) {v0 : Value} (g0 : k82.R 82 w base ok v0 x.f0) {v1 : Value} (g1 : k152.R 152 w base ok v1 x.f1) : k137.M w base ok x [v0, v1] := ⟨[v0], [v1], rfl, ⟨v0, rfl, g0⟩, ⟨v1, rfl, g1⟩⟩
theorem k137_openF {W : World} {ok : Nat → Prop} {x : S137} {cs : List Value} (h : Kd.FK k137 W ok x cs) : ∃ A0 c0 A1 c1, cs = [.slice A0 x.f0.length c0, .slice A1 x.f1.length c1] ∧ x.f0.length ≤ c0 ∧ Kd.F k82 W ok A0 x.f0.length x.f0 ∧ x.f1.length ≤ c1 ∧ Kd.F k152 W ok A1 x.f1.length x.f1 := by
  obtain ⟨A0, c0, A1, c1, rfl, l0, _, l1, _⟩ := k137_open (Kd.FK_now h)
  exact ⟨A0, c0, A1, c1, rfl, l0, (fun W' hW => by obtain ⟨A0_, c0_, A1_, c1_, he, l0_, g0_, l1_, g1_⟩ := k137_open (h W' hW); injection (Option.some.inj (show some (Value.slice A0 x.f0.length c0) = some (Value.slice A0_ x.f0.length c0_) from congrArg (fun l => l[0]?) he)) with ha_ _ _; rw [ha_]; exact g0_), l1, (fun W' hW => by obtain ⟨A0_, c0_, A1_, c1_, he, l0_, g0_, l1_, g1_⟩ := k137_open (h W' hW); injection (Option.some.inj (show some (Value.slice A1 x.f1.length c1) = some (Value.slice A1_ x.f1.length c1_) from congrArg (fun l => l[1]?) he)) with ha_ _ _; rw [ha_]; exact g1_)⟩
theorem k137_mkF (W : World) (ok : Nat → Prop) (x : S137) {A0 : Option Addr} {c0 : Nat} (l0 : x.f0.length ≤ c0) (g0 : Kd.F k82 W ok A0 x.f0.length x.f0) {A1 : Option Addr} {c1 : Nat} (l1 : x.f1.length ≤ c1) (g1 : Kd.F k152 W ok A1 x.f1.length x.f1) : Kd.FK k137 W ok x [.slice A0 x.f0.length c0, .slice A1 x.f1.length c1] := fun W2 hW => k137_mk W2 x l0 (g0 W2 hW) l1 (g1 W2 hW)
def rd_T137 (xs : List S137) (i : Int) : S137 := xs.getD i.toNat z137
theorem at_T137 {w : World} {A : Option Addr} {n : Nat} {xs : List S137} (h : Kd.C k137 w A n xs) (i : Int) (h0 : 0 ≤ i) (h1 : i < n) : ∃ ad A0 c0 A1 c1, A = some ad ∧ w.cell? (ad.add (i.toNat * 2)) = some (.slice A0 (rd_T137 xs i).f0.length c0) ∧ w.cell? ⟨(ad.add (i.toNat * 2)).block, (ad.add (i.toNat * 2)).off + 1, none⟩ = some (.slice A1 (rd_T137 xs i).f1.length c1) ∧ (rd_T137 xs i).f0.length ≤ c0 ∧ k82.C w A0 (rd_T137 xs i).f0.length (rd_T137 xs i).f0 ∧ (rd_T137 xs i).f1.length ≤ c1 ∧ k152.C w A1 (rd_T137 xs i).f1.length (rd_T137 xs i).f1 := by
  obtain ⟨ad, c, e, _, hK, hc0⟩ := Kd.C_get h z137 i h0 h1
  have hc : ∀ j u, c[j]? = some u → w.cell? (ad.add (i.toNat * 2 + j)) = some u := hc0
  obtain ⟨A0, c0, A1, c1, rfl, l0, g0, l1, g1⟩ := k137_open hK
  exact ⟨ad, A0, c0, A1, c1, e, hc 0 _ rfl, by rw [← add_field _ _ 1 (by omega)]; exact hc 1 _ rfl, l0, g0, l1, g1⟩

/-! #### struct type 52 -/
structure S52 where
  f0 : Int
  f1 : ByteArray
  f2 : Int
  f3 : (List S82)
  f4 : S50
def z52 : S52 := ⟨(0 : Int), (⟨#[]⟩ : ByteArray), (0 : Int), ([] : List S82), z50⟩
def k52 : Kd S52 := Kd.iso (Kd.pair (Kd.int .i64) (Kd.pair Kd.string (Kd.pair (Kd.int .i64) (Kd.pair (Kd.slice 82 k82) k50)))) (fun x : S52 => (x.f0, x.f1, x.f2, x.f3, x.f4))
theorem k52_heap : Kd.Heap k52 := Kd.heap_iso _ (Kd.heap_pair (Kd.heap_int .i64) (Kd.heap_pair Kd.heap_string (Kd.heap_pair (Kd.heap_int .i64) (Kd.heap_pair (Kd.heap_slice 82 k82_heap) k50_heap))))
theorem k52_open {w : World} {x : S52} {cs : List Value} (h : k52.K w x cs) : ∃ A3 c3, cs = [.int .i64 x.f0, .string x.f1, .int .i64 x.f2, .slice A3 x.f3.length c3, .int .i64 x.f4.f0, .int .i64 x.f4.f1] ∧ x.f3.length ≤ c3 ∧ k82.C w A3 x.f3.length x.f3 := by
  obtain ⟨_, _, rfl, rfl, ⟨_, _, rfl, rfl, ⟨_, _, rfl, rfl, ⟨_, _, rfl, ⟨A3, c3, rfl, l3, g3⟩, s4⟩⟩⟩⟩ := h
  obtain rfl := k50_open s4
  exact ⟨A3, c3, rfl, l3, g3⟩
theorem k52_openM {w : World} {base : Nat} {ok : Nat → Prop} {x : S52} {cs : List Value} (h : k52.M w base ok x cs) : ∃ v3, cs = [.int .i64 x.f0, .string x.f1, .int .i64 x.f2, v3, .int .i64 x.f4.f0, .int .i64 x.f4.f1] ∧ k82.R 82 w base ok v3 x.f3 := by
  obtain ⟨_, _, rfl, rfl, ⟨_, _, rfl, rfl, ⟨_, _, rfl, rfl, ⟨_, _, rfl, ⟨v3, rfl, g3⟩, s4⟩⟩⟩⟩ := h
  obtain rfl := k50_openM s4
  exact ⟨v3, rfl, g3⟩
theorem k52_mk (w : World) (x : S52) {A3 : Option Addr} {c3 : Nat} (l3 : x.f3.length ≤ c3) (g3 : k82.C w A3 x.f3.length x.f3) : k52.K w x [.int .i64 x.f0, .string x.f1, .int .i64 x.f2, .slice A3 x.f3.length c3, .int .i64 x.f4.f0, .int .i64 x.f4.f1] := ⟨[.int .i64 x.f0], [.string x.f1, .int .i64 x.f2, .slice A3 x.f3.length c3, .int .i64 x.f4.f0, .int .i64 x.f4.f1], rfl, rfl, ⟨[.string x.f1], [.int .i64 x.f2, .slice A3 x.f3.length c3, .int .i64 x.f4.f0, .int .i64 x.f4.f1], rfl, rfl, ⟨[.int .i64 x.f2], [.slice A3 x.f3.length c3, .int .i64 x.f4.f0, .int .i64 x.f4.f1], rfl, rfl, ⟨[.slice A3 x.f3.length c3], [.int .i64 x.f4.f0, .int .i64 x.f4.f1], rfl, ⟨A3, c3, rfl, l3, g3⟩, (k50_mk w x.f4 )⟩⟩⟩⟩
theorem k52_mkM (w : World) (base : Nat) (ok : Nat → Prop) (x : S52) {v3 : Value} (g3 : k82.R 82 w base ok v3 x.f3) : k52.M w base ok x [.int .i64 x.f0, .string x.f1, .int .i64 x.f2, v3, .int .i64 x.f4.f0, .int .i64 x.f4.f1] := ⟨[.int .i64 x.f0], [.string x.f1, .int .i64 x.f2, v3, .int .i64 x.f4.f0, .int .i64 x.f4.f1], rfl, rfl, ⟨[.string x.f1], [.int .i64 x.f2, v3, .int .i64 x.f4.f0, .int .i64 x.f4.f1], rfl, rfl, ⟨[.int .i64 x.f2], [v3, .int .i64 x.f4.f0, .int .i64 x.f4.f1], rfl, rfl, ⟨[v3], [.int .i64 x.f4.f0, .int .i64 x.f4.f1], rfl, ⟨v3, rfl, g3⟩, (k50_mkM w base ok x.f4 )⟩⟩⟩⟩
theorem k52_openF {W : World} {ok : Nat → Prop} {x : S52} {cs : List Value} (h : Kd.FK k52 W ok x cs) : ∃ A3 c3, cs = [.int .i64 x.f0, .string x.f1, .int .i64 x.f2, .slice A3 x.f3.length c3, .int .i64 x.f4.f0, .int .i64 x.f4.f1] ∧ x.f3.length ≤ c3 ∧ Kd.F k82 W ok A3 x.f3.length x.f3 := by
  obtain ⟨A3, c3, rfl, l3, _⟩ := k52_open (Kd.FK_now h)
  exact ⟨A3, c3, rfl, l3, (fun W' hW => by obtain ⟨A3_, c3_, he, l3_, g3_⟩ := k52_open (h W' hW); injection (Option.some.inj (show some (Value.slice A3 x.f3.length c3) = some (Value.slice A3_ x.f3.length c3_) from congrArg (fun l => l[3]?) he)) with ha_ _ _; rw [ha_]; exact g3_)⟩
theorem k52_mkF (W : World) (ok : Nat → Prop) (x : S52) {A3 : Option Addr} {c3 : Nat} (l3 : x.f3.length ≤ c3) (g3 : Kd.F k82 W ok A3 x.f3.length x.f3) : Kd.FK k52 W ok x [.int .i64 x.f0, .string x.f1, .int .i64 x.f2, .slice A3 x.f3.length c3, .int .i64 x.f4.f0, .int .i64 x.f4.f1] := fun W2 hW => k52_mk W2 x l3 (g3 W2 hW)
def rd_T52 (xs : List S52) (i : Int) : S52 := xs.getD i.toNat z52
theorem at_T52 {w : World} {A : Option Addr} {n : Nat} {xs : List S52} (h : Kd.C k52 w A n xs) (i : Int) (h0 : 0 ≤ i) (h1 : i < n) : ∃ ad A3 c3, A = some ad ∧ w.cell? (ad.add (i.toNat * 6)) = some (.int .i64 (rd_T52 xs i).f0) ∧ w.cell? ⟨(ad.add (i.toNat * 6)).block, (ad.add (i.toNat * 6)).off + 1, none⟩ = some (.string (rd_T52 xs i).f1) ∧ w.cell? ⟨(ad.add (i.toNat * 6)).block, (ad.add (i.toNat * 6)).off + 2, none⟩ = some (.int .i64 (rd_T52 xs i).f2) ∧ w.cell? ⟨(ad.add (i.toNat * 6)).block, (ad.add (i.toNat * 6)).off + 3, none⟩ = some (.slice A3 (rd_T52 xs i).f3.length c3) ∧ w.cell? ⟨(ad.add (i.toNat * 6)).block, (ad.add (i.toNat * 6)).off + 4, none⟩ = some (.int .i64 (rd_T52 xs i).f4.f0) ∧ w.cell? ⟨(ad.add (i.toNat * 6)).block, (ad.add (i.toNat * 6)).off + 5, none⟩ = some (.int .i64 (rd_T52 xs i).f4.f1) ∧ (rd_T52 xs i).f3.length ≤ c3 ∧ k82.C w A3 (rd_T52 xs i).f3.length (rd_T52 xs i).f3 := by
  obtain ⟨ad, c, e, _, hK, hc0⟩ := Kd.C_get h z52 i h0 h1
  have hc : ∀ j u, c[j]? = some u → w.cell? (ad.add (i.toNat * 6 + j)) = some u := hc0
  obtain ⟨A3, c3, rfl, l3, g3⟩ := k52_open hK
  exact ⟨ad, A3, c3, e, hc 0 _ rfl, by rw [← add_field _ _ 1 (by omega)]; exact hc 1 _ rfl, by rw [← add_field _ _ 2 (by omega)]; exact hc 2 _ rfl, by rw [← add_field _ _ 3 (by omega)]; exact hc 3 _ rfl, by rw [← add_field _ _ 4 (by omega)]; exact hc 4 _ rfl, by rw [← add_field _ _ 5 (by omega)]; exact hc 5 _ rfl, l3, g3⟩

/-! #### struct type 143 -/
structure S143 where
  f0 : Int
  f1 : Int
def z143 : S143 := ⟨(0 : Int), (0 : Int)⟩
def k143 : Kd S143 := Kd.iso (Kd.pair (Kd.int .i64) (Kd.int .i64)) (fun x : S143 => (x.f0, x.f1))
theorem k143_heap : Kd.Heap k143 := Kd.heap_iso _ (Kd.heap_pair (Kd.heap_int .i64) (Kd.heap_int .i64))
theorem k143_open {w : World} {x : S143} {cs : List Value} (h : k143.K w x cs) : cs = [.int .i64 x.f0, .int .i64 x.f1] := by
  obtain ⟨_, _, rfl, rfl, rfl⟩ := h
  exact rfl
theorem k143_openM {w : World} {base : Nat} {ok : Nat → Prop} {x : S143} {cs : List Value} (h : k143.M w base ok x cs) : cs = [.int .i64 x.f0, .int .i64 x.f1] := by
  obtain ⟨_, _, rfl, rfl, rfl⟩ := h
  exact rfl
theorem k143_mk (w : World) (x : S143)  : k143.K w x [.int .i64 x.f0, .int .i64 x.f1] := ⟨[.int .i64 x.f0], [.int .i64 x.f1], rfl, rfl, rfl⟩
theorem k143_mkM (w : World) (base : Nat) (ok : Nat → Prop) (x : S143)  : k143.M w base ok x [.int .i64 x.f0, .int .i64 x.f1] := ⟨[.int .i64 x.f0], [.int .i64 x.f1], rfl, rfl, rfl⟩
theorem k143_mkF (W : World) (ok : Nat → Prop) (x : S143) : Kd.FK k143 W ok x [.int .i64 x.f0, .int .i64 x.f1] := fun W2 _ => k143_mk W2 x
def rd_T143 (xs : List S143) (i : Int) : S143 := xs.getD i.toNat z143
theorem at_T143 {w : World} {A : Option Addr} {n : Nat} {xs : List S143} (h : Kd.C k143 w A n xs) (i : Int) (h0 : 0 ≤ i) (h1 : i < n) : ∃ ad , A = some ad ∧ w.cell? (ad.add (i.toNat * 2)) = some (.int .i64 (rd_T143 xs i).f0) ∧ w.cell? ⟨(ad.add (i.toNat * 2)).block, (ad.add (i.toNat * 2)).off + 1, none⟩ = some (.int .i64 (rd_T143 xs i).f1) := by
  obtain ⟨ad, c, e, _, hK, hc0⟩ := Kd.C_get h z143 i h0 h1
  have hc : ∀ j u, c[j]? = some u → w.cell? (ad.add (i.toNat * 2 + j)) = some u := hc0
  obtain rfl := k143_open hK
  exact ⟨ad, e, hc 0 _ rfl, by rw [← add_field _ _ 1 (by omega)]; exact hc 1 _ rfl⟩

/-! #### struct type 178 -/
structure S178 where
  f0 : (List S82)
  f1 : (List S82)
def z178 : S178 := ⟨([] : List S82), ([] : List S82)⟩
def k178 : Kd S178 := Kd.iso (Kd.pair (Kd.slice 82 k82) (Kd.slice 82 k82)) (fun x : S178 => (x.f0, x.f1))
theorem k178_heap : Kd.Heap k178 := Kd.heap_iso _ (Kd.heap_pair (Kd.heap_slice 82 k82_heap) (Kd.heap_slice 82 k82_heap))
theorem k178_open {w : World} {x : S178} {cs : List Value} (h : k178.K w x cs) : ∃ A0 c0 A1 c1, cs = [.slice A0 x.f0.length c0, .slice A1 x.f1.length c1] ∧ x.f0.length ≤ c0 ∧ k82.C w A0 x.f0.length x.f0 ∧ x.f1.length ≤ c1 ∧ k82.C w A1 x.f1.length x.f1 := by
  obtain ⟨_, _, rfl, ⟨A0, c0, rfl, l0, g0⟩, ⟨A1, c1, rfl, l1, g1⟩⟩ := h
  exact ⟨A0, c0, A1, c1, rfl, l0, g0, l1, g1⟩
theorem k178_openM {w : World} {base : Nat} {ok : Nat → Prop} {x : S178} {cs : List Value} (h : k178.M w base ok x cs) : ∃ v0 v1, cs = [v0, v1] ∧ k82.R 82 w base ok v0 x.f0 ∧ k82.R 82 w base ok v1 x.f1 := by
  obtain ⟨_, _, rfl, ⟨v0, rfl, g0⟩, ⟨v1, rfl, g1⟩⟩ := h
  exact ⟨v0, v1, rfl, g0, g1⟩
theorem k178_mk (w : World) (x : S178) {A0 : Option Addr} {c0 : Nat} (l0 : x.f0.length ≤ c0) (g0 : k82.C w A0 x.f0.length x.f0) {A1 : Option Addr} {c1 : Nat} (l1 : x.f1.length ≤ c1) (g1 : k82.C w A1 x.f1.length x.f1) : k178.K w x [.slice A0 x.f0.length c0, .slice A1 x.f1.length c1] := ⟨[.slice A0 x.f0.length c0], [.slice A1 x.f1.length c1], rfl, ⟨A0, c0, rfl, l0, g0⟩, ⟨A1, c1, rfl, l1, g1⟩⟩
theorem k178_mkM (w : World) (base : Nat) (ok : Nat → Prop) (x : S178) {v0 : Value} (g0 : k82.R 82 w base ok v0 x.f0) {v1 : Value} (g1 : k82.R 82 w base ok v1 x.f1) : k178.M w base ok x [v0, v1] := ⟨[v0], [v1], rfl, ⟨v0, rfl, g0⟩, ⟨v1, rfl, g1⟩⟩
theorem k178_openF {W : World} {ok : Nat → Prop} {x : S178} {cs : List Value} (h : Kd.FK k178 W ok x cs) : ∃ A0 c0 A1 c1, cs = [.slice A0 x.f0.length c0, .slice A1 x.f1.length c1] ∧ x.f0.length ≤ c0 ∧ Kd.F k82 W ok A0 x.f0.length x.f0 ∧ x.f1.length ≤ c1 ∧ Kd.F k82 W ok A1 x.f1.length x.f1 := by
  obtain ⟨A0, c0, A1, c1, rfl, l0, _, l1, _⟩ := k178_open (Kd.FK_now h)
  exact ⟨A0, c0, A1, c1, rfl, l0, (fun W' hW => by obtain ⟨A0_, c0_, A1_, c1_, he, l0_, g0_, l1_, g1_⟩ := k178_open (h W' hW); injection (Option.some.inj (show some (Value.slice A0 x.f0.length c0) = some (Value.slice A0_ x.f0.length c0_) from congrArg (fun l => l[0]?) he)) with ha_ _ _; rw [ha_]; exact g0_), l1, (fun W' hW => by obtain ⟨A0_, c0_, A1_, c1_, he, l0_, g0_, l1_, g1_⟩ := k178_open (h W' hW); injection (Option.some.inj (show some (Value.slice A1 x.f1.length c1) = some (Value.slice A1_ x.f1.length c1_) from congrArg (fun l => l[1]?) he)) with ha_ _ _; rw [ha_]; exact g1_)⟩
theorem k178_mkF (W : World) (ok : Nat → Prop) (x : S178) {A0 : Option Addr} {c0 : Nat} (l0 : x.f0.length ≤ c0) (g0 : Kd.F k82 W ok A0 x.f0.length x.f0) {A1 : Option Addr} {c1 : Nat} (l1 : x.f1.length ≤ c1) (g1 : Kd.F k82 W ok A1 x.f1.length x.f1) : Kd.FK k178 W ok x [.slice A0 x.f0.length c0, .slice A1 x.f1.length c1] := fun W2 hW => k178_mk W2 x l0 (g0 W2 hW) l1 (g1 W2 hW)
def rd_T178 (xs : List S178) (i : Int) : S178 := xs.getD i.toNat z178
theorem at_T178 {w : World} {A : Option Addr} {n : Nat} {xs : List S178} (h : Kd.C k178 w A n xs) (i : Int) (h0 : 0 ≤ i) (h1 : i < n) : ∃ ad A0 c0 A1 c1, A = some ad ∧ w.cell? (ad.add (i.toNat * 2)) = some (.slice A0 (rd_T178 xs i).f0.length c0) ∧ w.cell? ⟨(ad.add (i.toNat * 2)).block, (ad.add (i.toNat * 2)).off + 1, none⟩ = some (.slice A1 (rd_T178 xs i).f1.length c1) ∧ (rd_T178 xs i).f0.length ≤ c0 ∧ k82.C w A0 (rd_T178 xs i).f0.length (rd_T178 xs i).f0 ∧ (rd_T178 xs i).f1.length ≤ c1 ∧ k82.C w A1 (rd_T178 xs i).f1.length (rd_T178 xs i).f1 := by
  obtain ⟨ad, c, e, _, hK, hc0⟩ := Kd.C_get h z178 i h0 h1
  have hc : ∀ j u, c[j]? = some u → w.cell? (ad.add (i.toNat * 2 + j)) = some u := hc0
  obtain ⟨A0, c0, A1, c1, rfl, l0, g0, l1, g1⟩ := k178_open hK
  exact ⟨ad, A0, c0, A1, c1, e, hc 0 _ rfl, by rw [← add_field _ _ 1 (by omega)]; exact hc 1 _ rfl, l0, g0, l1, g1⟩

end Go.Proofs.YtiamihkfphmohaaGreatDoor.PA

namespace Go.Proofs.YtiamihkfphmohaaGreatDoor.PA
open Go.RowKit Go.Proofs.YtiamihkfphmohaaGreatDoorW.PrintWords Go.Proofs.YtiamihkfphmohaaGreatDoorW.PrintLast Go.Proofs.YtiamihkfphmohaaGreatDoorW.PrintMore
theorem bcell {W w1 : World} (hb : Below W.heap.size W w1) : (∀ b o, b < W.heap.size → w1.cell? ⟨b, o, none⟩ = W.cell? ⟨b, o, none⟩) ∧ (∀ b o, b < W.heap.size → w1.frozen? ⟨b, o, none⟩ = W.frozen? ⟨b, o, none⟩) :=
  ⟨fun b o h => hb.cell (p := ⟨b, o, none⟩) h, fun b o h => hb.frozen (p := ⟨b, o, none⟩) h⟩
theorem rb {a b : Bool} (h : a = b) : Ending.returned (.bool a) = .returned (.bool b) := by rw [h]
theorem ri {a b : Int} (h : a = b) : Ending.returned (.int .i64 a) = .returned (.int .i64 b) := by rw [h]
theorem bel1 {w w1 : World} {o : Obj} (h : Below (w.alloc o).heap.size (w.alloc o) w1) : Below w.heap.size w w1 :=
  below_then ((Below.refl _ _).alloc (Nat.le_refl _) o) (by simp) h
theorem bel2 {w w1 : World} {o p : Obj} (h : Below ((w.alloc o).alloc p).heap.size ((w.alloc o).alloc p) w1) : Below w.heap.size w w1 := bel1 (bel1 h)
theorem bel3 {w w1 : World} {o p q : Obj} (h : Below (((w.alloc o).alloc p).alloc q).heap.size (((w.alloc o).alloc p).alloc q) w1) : Below w.heap.size w w1 := bel2 (bel1 h)
def pv (p : S50) : Bool := decide (0 ≤ p.f0 ∧ p.f0 < p.f1 ∧ p.f1 ≤ 1099511627776)
def pc (p : S50) (t : Int) : Bool := pv p && decide (p.f0 ≤ t ∧ t < p.f1)
theorem pv_iff {p : S50} : pv p = true ↔ 0 ≤ p.f0 ∧ p.f0 < p.f1 ∧ p.f1 ≤ 1099511627776 := by simp [pv]
set_option maxHeartbeats 400000 in
theorem c65 (a b : Int) (w : World) :
    Calls Tryz.prog 66 #[.agg #[.int .i64 a, .int .i64 b]] w fun e w' => e = .returned (.bool (pv ⟨a, b⟩)) ∧ Below w.heap.size w w' := by
  go_enter Tryz.func66, Tryz.ntmps66
  go_wp2
  all_goals
    go_ret
    exact ⟨rb (by rw [Bool.eq_iff_iff, pv_iff]; simp; omega), below_alloc (Below.refl _ _) _⟩
set_option maxHeartbeats 400000 in
theorem c147 (a b : Int) (w : World) :
    Calls Tryz.prog 126 #[.agg #[.int .i64 a, .int .i64 b]] w fun e w' => e = .returned (.bool (pv ⟨a, b⟩)) ∧ Below w.heap.size w w' := by
  go_enter Tryz.func126, Tryz.ntmps126
  go_wp2
  all_goals
    go_ret
    exact ⟨rb (by rw [Bool.eq_iff_iff, pv_iff]; simp; omega), below_alloc (Below.refl _ _) _⟩
set_option maxHeartbeats 400000 in
theorem c44 (a b t : Int) (w : World) :
    Calls Tryz.prog 29 #[.agg #[.int .i64 a, .int .i64 b], .int .i64 t] w fun e w' => e = .returned (.bool (pc ⟨a, b⟩ t)) ∧ Below w.heap.size w w' := by
  go_enter Tryz.func29, Tryz.ntmps29
  go_wp2_with (go_at_call 66; refine (c65 _ _ _).mono ?_; rintro e w1 ⟨rfl, hb1⟩; obtain ⟨hc, hf⟩ := bcell hb1)
  all_goals
    go_ret
    exact ⟨rb (by first | (simp [pc, *]; done) | (simp [pc, *]; omega)), bel1 hb1⟩
set_option maxHeartbeats 400000 in
theorem c153 (a b t : Int) (w : World) :
    Calls Tryz.prog 100 #[.agg #[.int .i64 a, .int .i64 b], .int .i64 t] w fun e w' => e = .returned (.bool (pc ⟨a, b⟩ t)) ∧ Below w.heap.size w w' := by
  go_enter Tryz.func100, Tryz.ntmps100
  go_wp2_with (go_at_call 126; refine (c147 _ _ _).mono ?_; rintro e w1 ⟨rfl, hb1⟩; obtain ⟨hc, hf⟩ := bcell hb1)
  all_goals
    go_ret
    exact ⟨rb (by first | (simp [pc, *]; done) | (simp [pc, *]; omega)), bel1 hb1⟩
def icmp (a b : Int) : Int := if a < b then -1 else if b < a then 1 else 0
def tless (a b : ByteArray) : Bool := Op.bytesLess a.toList b.toList
def tcmp (a b : ByteArray) : Int := if tless a b then -1 else if a.toList = b.toList then 0 else 1
def vcmp (a b : S82) : Int := if a.f0 = b.f0 then (if a.f1 = b.f1 then tcmp a.f2 b.f2 else icmp a.f1 b.f1) else icmp a.f0 b.f0
set_option maxHeartbeats 400000 in
theorem c179 (a b : Bool) (w : World) :
    Calls Tryz.prog 103 #[.bool a, .bool b] w fun e w' => e = .returned (.int .i64 (if a then -1 else if b then 1 else 0)) ∧ w = w' := by
  go_enter Tryz.func103, Tryz.ntmps103
  go_wp2
  all_goals
    go_ret
    exact ⟨ri (by simp [*]), rfl⟩
theorem icmp_ne {a b : Int} (h : (a != b) = true) : icmp a b = if a < b then -1 else 1 := by
  have : a ≠ b := by simpa using h
  unfold icmp
  split
  · rfl
  · rw [if_pos (by omega)]
set_option maxHeartbeats 400000 in
theorem c118 (a0 a1 b0 b1 : Int) (a2 b2 : ByteArray) (w : World) :
    Calls Tryz.prog 62 #[.agg #[.int .i64 a0, .int .i64 a1, .string a2], .agg #[.int .i64 b0, .int .i64 b1, .string b2]] w fun e w' => e = .returned (.int .i64 (vcmp ⟨a0, a1, a2⟩ ⟨b0, b1, b2⟩)) ∧ Below w.heap.size w w' := by
  go_enter Tryz.func62, Tryz.ntmps62
  go_wp2_with (go_at_call 103; refine (c179 _ _ _).mono ?_; rintro e w1 ⟨rfl, rfl⟩)
  all_goals
    go_ret
    refine ⟨ri ?_, below_alloc (below_alloc (Below.refl _ _) _) _⟩
    first | (simp_all [vcmp, icmp, tcmp, tless]; done) | (simp_all; omega)
end Go.Proofs.YtiamihkfphmohaaGreatDoor.PA

namespace Go.Proofs.YtiamihkfphmohaaGreatDoor.PA
open Go.RowKit Go.Proofs.YtiamihkfphmohaaGreatDoorW.PrintWords Go.Proofs.YtiamihkfphmohaaGreatDoorW.PrintLast Go.Proofs.YtiamihkfphmohaaGreatDoorW.PrintMore

theorem bdrew {w w1 : World} (h : Below w.drew.heap.size w.drew w1) : Below w.heap.size w w1 := ⟨h.os, h.tape, h.output, h.size, h.block⟩
theorem bdrewN {w w1 : World} {n : Nat} (h : Below (w.drewN n).heap.size (w.drewN n) w1) : Below w.heap.size w w1 := ⟨h.os, h.tape, h.output, h.size, h.block⟩
theorem bthen {w w1 w2 : World} (h : Below w.heap.size w w1) (k : Below w1.heap.size w1 w2) : Below w.heap.size w w2 := below_then h h.size k
def rcmp : List S82 → List S82 → Int
  | [], [] => 0
  | [], _ :: _ => -1
  | _ :: _, [] => 1
  | x :: l, y :: m => if vcmp x y = 0 then rcmp l m else vcmp x y
theorem rcmp_step {l m : List S82} {k : Nat} (h1 : k < l.length) (h2 : k < m.length) : rcmp (l.drop k) (m.drop k) = if vcmp (rd_T82 l k) (rd_T82 m k) = 0 then rcmp (l.drop (k + 1)) (m.drop (k + 1)) else vcmp (rd_T82 l k) (rd_T82 m k) := by
  rw [List.drop_eq_getElem_cons h1, List.drop_eq_getElem_cons h2, rcmp]
  simp [rd_T82, h1, h2]
theorem rcmp_end1 {l m : List S82} {k : Nat} (h1 : l.length ≤ k) (h2 : k < m.length) : rcmp (l.drop k) (m.drop k) = -1 := by
  rw [List.drop_eq_nil_of_le h1, List.drop_eq_getElem_cons h2, rcmp]
theorem rcmp_end2 {l m : List S82} {k : Nat} (h1 : k < l.length) (h2 : m.length ≤ k) : rcmp (l.drop k) (m.drop k) = 1 := by
  rw [List.drop_eq_nil_of_le h2, List.drop_eq_getElem_cons h1, rcmp]
theorem rcmp_end3 {l m : List S82} {k : Nat} (h1 : l.length ≤ k) (h2 : m.length ≤ k) : rcmp (l.drop k) (m.drop k) = 0 := by
  rw [List.drop_eq_nil_of_le h1, List.drop_eq_nil_of_le h2, rcmp]
set_option maxHeartbeats 1000000 in
theorem c37 (A1 : Option Addr) (n1 c1 : Nat) (l1 : List S82) (A2 : Option Addr) (n2 c2 : Nat) (l2 : List S82) (w : World) (hr1 : k82.C w A1 n1 l1) (hr2 : k82.C w A2 n2 l2) :
    Calls Tryz.prog 22 #[.slice A1 n1 c1, .slice A2 n2 c2] w fun e w' => e = .returned (.int .i64 (rcmp l1 l2)) ∧ Below w.heap.size w w' := by
  obtain rfl := hr1.1
  obtain rfl := hr2.1
  have hm1 := hr1.2.1
  have hm2 := hr2.2.1
  have HR1 := Aside0.mk hr1
  have HR2 := Aside0.mk hr2
  clear hr1 hr2
  go_enter Tryz.func22, Tryz.ntmps22
  go_wp2
  go_loopw [5] (fun i wr => ∃ k : Nat, i = .int .i64 k ∧ k ≤ l1.length ∧ k ≤ l2.length ∧ Aside0 (rcmp (l1.drop k) (l2.drop k) = rcmp l1 l2) ∧ Aside0 (Below w.heap.size w wr)) (fun i _ => l1.length - (intOf i).toNat)
  case atStart => exact ⟨0, rfl, Nat.zero_le _, Nat.zero_le _, ⟨rfl⟩, ⟨Below.refl _ _⟩⟩
  case round =>
    obtain ⟨k, rfl, hk1', hk2', HC, HB⟩ := hrel
    by_cases h1 : k < l1.length
    · by_cases h2 : k < l2.length
      · obtain ⟨a1, rfl, x0, x1, x2⟩ := at_T82 HR1.out k (by omega) (by omega)
        obtain ⟨a2, rfl, y0, y1, y2⟩ := at_T82 HR2.out k (by omega) (by omega)
        rw [Int.toNat_natCast] at *
        replace x0 := pw_cell_below HB.out x0
        replace x1 := pw_cell_below HB.out x1
        replace x2 := pw_cell_below HB.out x2
        replace y0 := pw_cell_below HB.out y0
        replace y1 := pw_cell_below HB.out y1
        replace y2 := pw_cell_below HB.out y2
        have hk1 : (0 : Int) ≤ k := by omega
        have hk2 : (k : Int) < l1.length := by omega
        have hk3 : (k : Int) < l2.length := by omega
        go_wp2
        go_region_held3 (fun w' => w'.cell? (a1.add (k * 3)) = some (.int .i64 (rd_T82 l1 k).f0) ∧ w'.cell? ⟨(a1.add (k * 3)).block, (a1.add (k * 3)).off + 1, none⟩ = some (.int .i64 (rd_T82 l1 k).f1) ∧ w'.cell? ⟨(a1.add (k * 3)).block, (a1.add (k * 3)).off + 2, none⟩ = some (.string (rd_T82 l1 k).f2) ∧ w'.cell? (a2.add (k * 3)) = some (.int .i64 (rd_T82 l2 k).f0) ∧ w'.cell? ⟨(a2.add (k * 3)).block, (a2.add (k * 3)).off + 1, none⟩ = some (.int .i64 (rd_T82 l2 k).f1) ∧ w'.cell? ⟨(a2.add (k * 3)).block, (a2.add (k * 3)).off + 2, none⟩ = some (.string (rd_T82 l2 k).f2)) (first | go_keep | (refine ⟨?_, ?_, ?_, ?_, ?_, ?_⟩ <;> exact pw_cell_below hb1 (by assumption)))
          (first | (go_at_call 62; refine (c118 _ _ _ _ _ _ _).mono ?_; rintro e w1 ⟨rfl, hb1⟩))
        rename_i hS
        clear hS
        have HB1 := Aside0.mk hb1
        clear hb1
        clear x0 x1 x2 y0 y1 y2
        go_wp2
        · have hne : (vcmp (rd_T82 l1 k) (rd_T82 l2 k) != 0) = true := by assumption
          have hs := rcmp_step h1 h2
          go_ret
          exact ⟨ri (by rw [← HC.out, hs, if_neg (by simpa using hne)]), bthen HB.out (bdrew HB1.out)⟩
        · have hne : (vcmp (rd_T82 l1 k) (rd_T82 l2 k) != 0) = false := by assumption
          have hs := rcmp_step h1 h2
          exact ⟨⟨k + 1, by go_num, h1, h2, ⟨by rw [← HC.out, hs, if_pos (by simpa using hne)]⟩, ⟨bthen HB.out (bdrew HB1.out)⟩⟩, by simp [intOf]; omega⟩
      · have hk : ¬ (k : Int) < l2.length := by omega
        go_wp2
        go_ret
        exact ⟨ri (by rw [← HC.out, rcmp_end2 h1 (by omega)]), HB.out⟩
    · have hk : ¬ (k : Int) < l1.length := by omega
      go_wp2
      · go_ret
        exact ⟨ri (by rw [← HC.out, rcmp_end1 (by omega) (by omega)]), HB.out⟩
      · go_ret
        exact ⟨ri (by rw [← HC.out, rcmp_end3 (by omega) (by omega)]), HB.out⟩
end Go.Proofs.YtiamihkfphmohaaGreatDoor.PA

namespace Go.Proofs.YtiamihkfphmohaaGreatDoor.PA
open Go.RowKit Go.Proofs.YtiamihkfphmohaaGreatDoorW.PrintWords Go.Proofs.YtiamihkfphmohaaGreatDoorW.PrintLast Go.Proofs.YtiamihkfphmohaaGreatDoorW.PrintMore

def pov (p q : S50) : Bool := pv p && (pv q && decide (p.f0 < q.f1 ∧ q.f0 < p.f1))
def padj (p q : S50) : Bool := pv p && (pv q && (p.f1 == q.f0 || q.f1 == p.f0))
def pcov (p q : S50) : Bool := pv p && (pv q && decide (p.f0 ≤ q.f0 ∧ q.f1 ≤ p.f1))
def pcmp (p q : S50) : Int := if p.f0 = q.f0 ∧ p.f1 = q.f1 then 0 else if p.f0 < q.f0 ∨ p.f0 = q.f0 ∧ p.f1 < q.f1 then -1 else 1
def pint (p q : S50) : S50 := if pov p q then ⟨max p.f0 q.f0, min p.f1 q.f1⟩ else ⟨0, 0⟩
set_option maxHeartbeats 400000 in
theorem c87 (a b c d : Int) (w : World) :
    Calls Tryz.prog 116 #[.agg #[.int .i64 a, .int .i64 b], .agg #[.int .i64 c, .int .i64 d]] w fun e w' => e = .returned (.bool (pov ⟨a, b⟩ ⟨c, d⟩)) ∧ Below w.heap.size w w' := by
  have HB := Aside0.mk (Below.refl w.heap.size w)
  go_enter Tryz.func116, Tryz.ntmps116
  go_wp2_with (go_at_call 66; refine (c65 _ _ _).mono ?_; rintro e w1 ⟨rfl, hb1⟩; obtain ⟨hc, hf⟩ := bcell hb1; have hz := hb1.size; (try simp at hz); have hz0 : w.heap.size < w1.heap.size := (by omega); have hz1 : w.heap.size + 1 < w1.heap.size := (by omega); clear hz; have n0_ := Aside0.mk (below_step (by repeat (first | (with_reducible first | exact HB.out | apply below_alloc | apply pw_below_drewN | apply below_drew1) | exact HB.out)) hb1); clear HB; have HB := n0_; clear n0_ hb1)
  all_goals
    go_ret
    refine ⟨rb ?_, (by repeat (first | (with_reducible first | exact HB.out | apply below_alloc | apply pw_below_drewN | apply below_drew1) | exact HB.out))⟩
    first | (simp_all [pov]; done) | (simp_all [pov]; omega)
set_option maxHeartbeats 400000 in
theorem c206 (a b c d : Int) (w : World) :
    Calls Tryz.prog 152 #[.agg #[.int .i64 a, .int .i64 b], .agg #[.int .i64 c, .int .i64 d]] w fun e w' => e = .returned (.bool (pov ⟨a, b⟩ ⟨c, d⟩)) ∧ Below w.heap.size w w' := by
  have HB := Aside0.mk (Below.refl w.heap.size w)
  go_enter Tryz.func152, Tryz.ntmps152
  go_wp2_with (go_at_call 126; refine (c147 _ _ _).mono ?_; rintro e w1 ⟨rfl, hb1⟩; obtain ⟨hc, hf⟩ := bcell hb1; have hz := hb1.size; (try simp at hz); have hz0 : w.heap.size < w1.heap.size := (by omega); have hz1 : w.heap.size + 1 < w1.heap.size := (by omega); clear hz; have n0_ := Aside0.mk (below_step (by repeat (first | (with_reducible first | exact HB.out | apply below_alloc | apply pw_below_drewN | apply below_drew1) | exact HB.out)) hb1); clear HB; have HB := n0_; clear n0_ hb1)
  all_goals
    go_ret
    refine ⟨rb ?_, (by repeat (first | (with_reducible first | exact HB.out | apply below_alloc | apply pw_below_drewN | apply below_drew1) | exact HB.out))⟩
    first | (simp_all [pov]; done) | (simp_all [pov]; omega)
set_option maxHeartbeats 400000 in
theorem c85 (a b c d : Int) (w : World) :
    Calls Tryz.prog 178 #[.agg #[.int .i64 a, .int .i64 b], .agg #[.int .i64 c, .int .i64 d]] w fun e w' => e = .returned (.int .i64 (pcmp ⟨a, b⟩ ⟨c, d⟩)) ∧ Below w.heap.size w w' := by
  have HB := Aside0.mk (Below.refl w.heap.size w)
  go_enter Tryz.func178, Tryz.ntmps178
  go_wp2
  all_goals
    go_ret
    refine ⟨ri ?_, (by repeat (first | (with_reducible first | exact HB.out | apply below_alloc | apply pw_below_drewN | apply below_drew1) | exact HB.out))⟩
    first | (simp_all [pcmp]; done) | (simp_all [pcmp]; omega)
end Go.Proofs.YtiamihkfphmohaaGreatDoor.PA

namespace Go.Proofs.YtiamihkfphmohaaGreatDoor.PA
open Go.RowKit Go.Proofs.YtiamihkfphmohaaGreatDoorW.PrintWords Go.Proofs.YtiamihkfphmohaaGreatDoorW.PrintLast Go.Proofs.YtiamihkfphmohaaGreatDoorW.PrintMore

theorem cmpb_refl (a : List UInt8) : Lib.compareBytes a a = 0 := by
  induction a with
  | nil => rfl
  | cons x a ih => simp [Lib.compareBytes, ih]
theorem cmpb_less : ∀ (a b : List UInt8), Op.bytesLess a b = true ↔ Lib.compareBytes a b = -1
  | [], [] => by simp [Op.bytesLess, Lib.compareBytes]
  | [], _ :: _ => by simp [Op.bytesLess, Lib.compareBytes]
  | _ :: _, [] => by simp [Op.bytesLess, Lib.compareBytes]
  | x :: a, y :: b => by
    have ih := cmpb_less a b
    simp only [Op.bytesLess, Lib.compareBytes]
    by_cases h : x < y
    · simp [h]
    · by_cases h2 : y < x
      · have hne : x ≠ y := by rintro rfl; exact h h2
        simp [h, h2, hne]
      · have he : x = y := UInt8.le_antisymm (by simpa using h2) (by simpa using h)
        subst he
        simp [h, ih]
theorem cmpb_eq : ∀ (a b : List UInt8), Lib.compareBytes a b = 0 ↔ a = b
  | [], [] => by simp [Lib.compareBytes]
  | [], _ :: _ => by simp [Lib.compareBytes]
  | _ :: _, [] => by simp [Lib.compareBytes]
  | x :: a, y :: b => by
    have ih := cmpb_eq a b
    simp only [Lib.compareBytes]
    by_cases h : x < y
    · have hne : x ≠ y := by rintro rfl; exact absurd h (by simp)
      simp [h, hne]
    · by_cases h2 : y < x
      · have hne : x ≠ y := by rintro rfl; exact h h2
        simp [h, h2, hne]
      · have he : x = y := UInt8.le_antisymm (by simpa using h2) (by simpa using h)
        subst he
        simp [ih]
theorem cmpb_three (a b : List UInt8) : Lib.compareBytes a b = -1 ∨ Lib.compareBytes a b = 0 ∨ Lib.compareBytes a b = 1 := by
  induction a generalizing b with
  | nil => cases b <;> simp [Lib.compareBytes]
  | cons x a ih =>
    cases b with
    | nil => simp [Lib.compareBytes]
    | cons y b =>
      simp only [Lib.compareBytes]
      split
      · simp
      · split
        · simp
        · exact ih b
theorem tcmp_is (a b : ByteArray) : tcmp a b = Lib.compareBytes a.data.toList b.data.toList := by
  unfold tcmp tless
  rw [Lib.toList_data, Lib.toList_data]
  split
  · rename_i h; exact ((cmpb_less _ _).1 h).symm
  · rename_i h
    split
    · rename_i h2; exact ((cmpb_eq _ _).2 h2).symm
    · rename_i h2
      rcases cmpb_three a.data.toList b.data.toList with h3 | h3 | h3
      · exact absurd ((cmpb_less _ _).2 h3) h
      · exact absurd ((cmpb_eq _ _).1 h3) h2
      · exact h3.symm
set_option maxHeartbeats 1000000 in
set_option maxRecDepth 100000 in
theorem c305 (a b : ByteArray) (w : World) :
    Calls Tryz.prog 208 #[.string a, .string b] w fun e w' => e = .returned (.int .i64 (tcmp a b)) ∧ w = w' := by
  go_enter Tryz.func208, Tryz.ntmps208
  go_wp2
  rw [run_callFunc_extern Tryz.func236 (by kernel_rfl) (by kernel_rfl) (by kernel_rfl) (e := Extern.BytealgCompare.compare) (by kernel_rfl), Lib.run_compareString]
  simp only [Result.andThen]
  rw [Oper.upon_value]
  go_wp2
  go_ret
  exact ⟨ri (tcmp_is a b).symm, rfl⟩
set_option maxHeartbeats 400000 in
theorem c276 (a b : ByteArray) (w : World) :
    Calls Tryz.prog 179 #[.string a, .string b] w fun e w' => e = .returned (.int .i64 (tcmp a b)) ∧ w = w' := by
  go_enter Tryz.func179, Tryz.ntmps179
  go_wp2_with (go_at_call 208; refine (c305 _ _ _).mono ?_; rintro e w' ⟨rfl, rfl⟩)
  go_ret
  exact ⟨rfl, rfl⟩
set_option maxHeartbeats 400000 in
theorem c205 (a : Int) (w : World) : Calls Tryz.prog 177 #[.int .i64 a] w fun e w' => e = .returned (.bool false) ∧ w = w' := by
  go_enter Tryz.func177, Tryz.ntmps177
  go_wp2
  go_ret
  exact ⟨rb (by simp), rfl⟩
set_option maxHeartbeats 400000 in
theorem c149 (a b : Int) (w : World) : Calls Tryz.prog 148 #[.int .i64 a, .int .i64 b] w fun e w' => e = .returned (.int .i64 (icmp a b)) ∧ w = w' := by
  go_enter Tryz.func148, Tryz.ntmps148
  go_wp2_with (go_at_call 177; refine (c205 _ _).mono ?_; rintro e w' ⟨rfl, rfl⟩)
  all_goals
    go_ret
    exact ⟨ri (by first | (simp [icmp, *]; done) | (unfold icmp; rw [if_neg (by omega), if_neg (by omega)])), rfl⟩
end Go.Proofs.YtiamihkfphmohaaGreatDoor.PA

namespace Go.Proofs.YtiamihkfphmohaaGreatDoor.PA
open Go.RowKit Go.Proofs.YtiamihkfphmohaaGreatDoorW.PrintWords Go.Proofs.YtiamihkfphmohaaGreatDoorW.PrintLast Go.Proofs.YtiamihkfphmohaaGreatDoorW.PrintMore

def orI : List Int → Int
  | [] => 0
  | x :: l => if x = 0 then orI l else x
theorem orI_step {l : List Int} {k : Nat} (h : k < l.length) : orI (l.drop k) = if rd l k = 0 then orI (l.drop (k + 1)) else rd l k := by
  rw [List.drop_eq_getElem_cons h, orI]
  simp [rd, h]
set_option maxHeartbeats 400000 in
theorem c197 (A : Option Addr) (n c : Nat) (l : List Int) (w : World) (hr : (Kd.int .i64).C w A n l) :
    Calls Tryz.prog 147 #[.slice A n c] w fun e w' => e = .returned (.int .i64 (orI l)) ∧ w = w' := by
  obtain rfl := hr.1
  have hm := hr.2.1
  have HR := Aside0.mk hr
  clear hr
  go_enter Tryz.func147, Tryz.ntmps147
  go_wp2
  go_loop [8] (fun i => ∃ k : Nat, i = .int .i64 k ∧ k ≤ l.length ∧ Aside0 (orI (l.drop k) = orI l)) (fun i => l.length - (intOf i).toNat)
  case atStart => exact ⟨0, rfl, Nat.zero_le _, ⟨rfl⟩⟩
  case round =>
    obtain ⟨k, rfl, hk', HC⟩ := hrel
    by_cases h1 : k < l.length
    · obtain ⟨A, rfl⟩ : ∃ a, A = some a := by obtain ⟨a, e, _⟩ := HR.out.2.2 (by omega); exact ⟨a, e⟩
      have x0 := Kd.foot_int HR.out k (by omega) (by omega)
      rw [Int.toNat_natCast] at x0
      have hs := Lib.hid (orI_step h1)
      go_wp2
      · have hne : (rd l k != 0) = true := by assumption
        go_ret
        exact ⟨ri (by rw [← HC.out, hs.out, if_neg (by simpa using hne)]), rfl⟩
      · have hne : (rd l k != 0) = false := by assumption
        exact ⟨⟨k + 1, by go_num, h1, ⟨by rw [← HC.out, hs.out, if_pos (by simpa using hne)]⟩⟩, by simp [intOf]; omega⟩
    · go_wp2
      go_ret
      exact ⟨ri (by rw [← HC.out, List.drop_eq_nil_of_le (by omega), orI]), rfl⟩
end Go.Proofs.YtiamihkfphmohaaGreatDoor.PA

namespace Go.Proofs.YtiamihkfphmohaaGreatDoor.PA
open Go.RowKit Go.Proofs.YtiamihkfphmohaaGreatDoorW.PrintWords Go.Proofs.YtiamihkfphmohaaGreatDoorW.PrintLast Go.Proofs.YtiamihkfphmohaaGreatDoorW.PrintMore

theorem vcmp_or (a b : S82) : orI [icmp a.f0 b.f0, icmp a.f1 b.f1, tcmp a.f2 b.f2] = vcmp a b := by
  have key : ∀ x y : Int, icmp x y = 0 ↔ x = y := by
    intro x y
    unfold icmp
    split
    · constructor <;> intro h <;> omega
    · split
      · constructor <;> intro h <;> omega
      · constructor <;> intro h <;> omega
  simp only [orI, vcmp]
  by_cases h0 : a.f0 = b.f0
  · rw [if_pos ((key _ _).2 h0), if_pos h0]
    by_cases h1 : a.f1 = b.f1
    · rw [if_pos ((key _ _).2 h1), if_pos h1]
      split
      · rename_i h; exact h.symm
      · rfl
    · rw [if_neg (fun h => h1 ((key _ _).1 h)), if_neg h1]
  · rw [if_neg (fun h => h0 ((key _ _).1 h)), if_neg h0]
theorem hd_alloc_eq {W : World} {o : Obj} {i : Nat} (h : i = W.heap.size) : (W.alloc o).heap[i]? = some o := by
  subst h
  exact heap_alloc_new W o
theorem C_blk_ints {W : World} {g : Nat} {t : TypeId} {cs : Array Value} (hb : W.heap[g]? = some (.cells cs t (0, 0))) (l : List Int) (hcs : cs = (nums .i64 l).toArray) (n : Nat) (hn : l.length = n) (hl : l.length ≤ 9223372036854775807) : (Kd.int .i64).C W (some ⟨g, 0, none⟩) n l := by
  subst hcs hn
  refine Kd.C_of_reads (d := (0 : Int)) (h1 := fun _ => rfl) ⟨rfl, hl, fun _ => ⟨_, rfl, fun j hj => ?_⟩⟩
  rw [add_plain, blk_cell hb j]
  simp [nums, List.getD_eq_getElem?_getD, List.getElem?_eq_getElem hj]
set_option maxHeartbeats 1000000 in
set_option maxRecDepth 100000 in
theorem c232 (a0 a1 b0 b1 : Int) (a2 b2 : ByteArray) (w : World) :
    Calls Tryz.prog 151 #[.agg #[.int .i64 a0, .int .i64 a1, .string a2], .agg #[.int .i64 b0, .int .i64 b1, .string b2]] w fun e w' => e = .returned (.int .i64 (vcmp ⟨a0, a1, a2⟩ ⟨b0, b1, b2⟩)) ∧ Below w.heap.size w w' := by
  have H := Lib.hid (vcmp_or ⟨a0, a1, a2⟩ ⟨b0, b1, b2⟩)
  go_enter Tryz.func151, Tryz.ntmps151
  go_wp2
  go_region_held3 (fun w' => w'.cell? ⟨w.heap.size, 0, none⟩ = some (.int .i64 a0) ∧ w'.cell? ⟨w.heap.size, 1, none⟩ = some (.int .i64 a1) ∧ w'.cell? ⟨w.heap.size, 2, none⟩ = some (.string a2) ∧ w'.cell? ⟨w.heap.size + 1, 0, none⟩ = some (.int .i64 b0) ∧ w'.cell? ⟨w.heap.size + 1, 1, none⟩ = some (.int .i64 b1) ∧ w'.cell? ⟨w.heap.size + 1, 2, none⟩ = some (.string b2))
    (go_keep)
    (first | (go_at_call 148; refine (c149 _ _ _).mono ?_; rintro e w1 ⟨rfl, rfl⟩) | (go_at_call 179; refine (c276 _ _ _).mono ?_; rintro e w1 ⟨rfl, rfl⟩) | (go_at_call 147; refine (c197 _ _ _ [icmp a0 b0, icmp a1 b1, tcmp a2 b2] _ (by exact C_blk_ints (blk_drew (hd_alloc_eq (by simp))) _ rfl _ rfl (by simp))).mono ?_; rintro e w1 ⟨rfl, rfl⟩))
  go_wp2
  go_ret
  exact ⟨ri H.out, (by repeat (first | exact Below.refl _ _ | apply below_alloc | apply below_drew | apply pw_below_drewN | apply below_drew1))⟩
end Go.Proofs.YtiamihkfphmohaaGreatDoor.PA

namespace Go.Proofs.YtiamihkfphmohaaGreatDoor.PA
open Go.RowKit Go.Proofs.YtiamihkfphmohaaGreatDoorW.PrintWords Go.Proofs.YtiamihkfphmohaaGreatDoorW.PrintLast Go.Proofs.YtiamihkfphmohaaGreatDoorW.PrintMore

set_option maxHeartbeats 1000000 in
theorem c231 (A1 : Option Addr) (n1 c1 : Nat) (l1 : List S82) (A2 : Option Addr) (n2 c2 : Nat) (l2 : List S82) (w : World) (hr1 : k82.C w A1 n1 l1) (hr2 : k82.C w A2 n2 l2) :
    Calls Tryz.prog 150 #[.slice A1 n1 c1, .slice A2 n2 c2, .func (.func 151) #[] #[]] w fun e w' => e = .returned (.int .i64 (rcmp l1 l2)) ∧ Below w.heap.size w w' := by
  obtain rfl := hr1.1
  obtain rfl := hr2.1
  have hm1 := hr1.2.1
  have hm2 := hr2.2.1
  have HR1 := Aside0.mk hr1
  have HR2 := Aside0.mk hr2
  clear hr1 hr2
  go_enter Tryz.func150, Tryz.ntmps150
  go_wp2
  go_loopw [13] (fun i wr => ∃ k : Nat, i = .int .i64 k ∧ k ≤ l1.length ∧ k ≤ l2.length ∧ Aside0 (rcmp (l1.drop k) (l2.drop k) = rcmp l1 l2) ∧ Aside0 (Below w.heap.size w wr)) (fun i _ => l1.length - (intOf i).toNat)
  case atStart => exact ⟨0, rfl, Nat.zero_le _, Nat.zero_le _, ⟨rfl⟩, ⟨Below.refl _ _⟩⟩
  case round =>
    obtain ⟨k, rfl, hk1', hk2', HC, HB⟩ := hrel
    by_cases h1 : k < l1.length
    · obtain ⟨xa, rfl, x0, x1, x2⟩ := at_T82 HR1.out k (by omega) (by omega)
      rw [Int.toNat_natCast] at x0 x1 x2
      replace x0 := pw_cell_below HB.out x0
      replace x1 := pw_cell_below HB.out x1
      replace x2 := pw_cell_below HB.out x2
      have xb := World.block_lt_of_cell? _ _ x0
      by_cases h2 : k < l2.length
      · obtain ⟨ya, rfl, y0, y1, y2⟩ := at_T82 HR2.out k (by omega) (by omega)
        rw [Int.toNat_natCast] at y0 y1 y2
        replace y0 := pw_cell_below HB.out y0
        replace y1 := pw_cell_below HB.out y1
        replace y2 := pw_cell_below HB.out y2
        have yb := World.block_lt_of_cell? _ _ y0
        have hk1 : (0 : Int) ≤ k := by omega
        have hk2 : (k : Int) < l1.length := by omega
        have hk3 : (k : Int) < l2.length := by omega
        go_wp2_with fail
        refine (c232 _ _ _ _ _ _ _).mono ?_
        rintro e w1 ⟨rfl, hb1⟩
        have n0_ := Aside0.mk (below_step (by repeat (first | (with_reducible first | exact HB.out | apply below_alloc | apply pw_below_drewN | apply below_drew1) | exact HB.out)) hb1)
        clear HB hb1
        have HB := n0_
        clear n0_
        clear x0 x1 x2 xb y0 y1 y2 yb
        have hs := Lib.hid (rcmp_step h1 h2)
        go_wp2
        · have hne : (vcmp (rd_T82 l1 k) (rd_T82 l2 k) != 0) = true := by assumption
          go_ret
          exact ⟨ri (by rw [← HC.out, hs.out, if_neg (by simpa using hne)]), HB.out⟩
        · have hne : (vcmp (rd_T82 l1 k) (rd_T82 l2 k) != 0) = false := by assumption
          exact ⟨⟨k + 1, by go_num, h1, h2, ⟨by rw [← HC.out, hs.out, if_pos (by simpa using hne)]⟩, HB⟩, by simp [intOf]; omega⟩
      · have hk3 : ¬ (k : Int) < l2.length := by omega
        go_wp2
        go_ret
        exact ⟨ri (by rw [← HC.out, rcmp_end2 h1 (by omega)]), (by repeat (first | (with_reducible first | exact HB.out | apply below_alloc | apply pw_below_drewN | apply below_drew1) | exact HB.out))⟩
    · have hk3 : ¬ (k : Int) < l1.length := by omega
      go_wp2
      · go_ret
        exact ⟨ri (by rw [← HC.out, rcmp_end1 (by omega) (by omega)]), HB.out⟩
      · go_ret
        exact ⟨ri (by rw [← HC.out, rcmp_end3 (by omega) (by omega)]), HB.out⟩
set_option maxHeartbeats 400000 in
theorem c189 (A1 : Option Addr) (n1 c1 : Nat) (l1 : List S82) (A2 : Option Addr) (n2 c2 : Nat) (l2 : List S82) (w : World) (hr1 : k82.C w A1 n1 l1) (hr2 : k82.C w A2 n2 l2) :
    Calls Tryz.prog 114 #[.slice A1 n1 c1, .slice A2 n2 c2] w fun e w' => e = .returned (.int .i64 (rcmp l1 l2)) ∧ Below w.heap.size w w' := by
  have HR1 := Aside0.mk hr1
  have HR2 := Aside0.mk hr2
  clear hr1 hr2
  go_enter Tryz.func114, Tryz.ntmps114
  go_wp2_with fail
  refine (c231 _ _ _ _ _ _ _ _ _ HR1.out HR2.out).mono ?_
  rintro e w1 ⟨rfl, hb1⟩
  have HB := Aside0.mk hb1
  clear hb1
  go_wp2
  go_ret
  exact ⟨rfl, HB.out⟩
def req (l m : List S82) : Bool := rcmp l m == 0
set_option maxHeartbeats 400000 in
theorem c135 (A1 : Option Addr) (n1 c1 : Nat) (l1 : List S82) (A2 : Option Addr) (n2 c2 : Nat) (l2 : List S82) (w : World) (hr1 : k82.C w A1 n1 l1) (hr2 : k82.C w A2 n2 l2) :
    Calls Tryz.prog 78 #[.slice A1 n1 c1, .slice A2 n2 c2] w fun e w' => e = .returned (.bool (req l1 l2)) ∧ Below w.heap.size w w' := by
  have HR1 := Aside0.mk hr1
  have HR2 := Aside0.mk hr2
  clear hr1 hr2
  go_enter Tryz.func78, Tryz.ntmps78
  go_wp2_with fail
  refine (c189 _ _ _ _ _ _ _ _ _ HR1.out HR2.out).mono ?_
  rintro e w1 ⟨rfl, hb1⟩
  have HB := Aside0.mk hb1
  clear hb1
  go_wp2
  go_ret
  exact ⟨rfl, HB.out⟩
set_option maxHeartbeats 400000 in
theorem c152 (A1 : Option Addr) (n1 c1 : Nat) (l1 : List S82) (A2 : Option Addr) (n2 c2 : Nat) (l2 : List S82) (w : World) (hr1 : k82.C w A1 n1 l1) (hr2 : k82.C w A2 n2 l2) :
    Calls Tryz.prog 137 #[.slice A1 n1 c1, .slice A2 n2 c2] w fun e w' => e = .returned (.bool (req l1 l2)) ∧ Below w.heap.size w w' := by
  have HR1 := Aside0.mk hr1
  have HR2 := Aside0.mk hr2
  clear hr1 hr2
  go_enter Tryz.func137, Tryz.ntmps137
  go_wp2_with fail
  refine (c37 _ _ _ _ _ _ _ _ _ HR1.out HR2.out).mono ?_
  rintro e w1 ⟨rfl, hb1⟩
  have HB := Aside0.mk hb1
  clear hb1
  go_wp2
  go_ret
  exact ⟨rfl, HB.out⟩
end Go.Proofs.YtiamihkfphmohaaGreatDoor.PA

namespace Go.Proofs.YtiamihkfphmohaaGreatDoor.PA
open Go.RowKit Go.Proofs.YtiamihkfphmohaaGreatDoorW.PrintWords Go.Proofs.YtiamihkfphmohaaGreatDoorW.PrintLast Go.Proofs.YtiamihkfphmohaaGreatDoorW.PrintMore

def putS (l : List S152) (x n : Int) : List S152 := match l.getLast? with
  | none => l ++ [⟨x, n⟩]
  | some q => if q.f1 = n then l else l ++ [⟨x, n⟩]
theorem putS_nil (x n : Int) : putS [] x n = [⟨x, n⟩] := rfl
theorem putS_last {l : List S152} (h : 0 < l.length) (x n : Int) : putS l x n = if (rd_T152 l (l.length - 1 : Int)).f1 = n then l else l ++ [⟨x, n⟩] := by
  have h1 : l.getLast? = some (rd_T152 l (l.length - 1 : Int)) := by
    rw [List.getLast?_eq_getElem?, rd_T152, List.getD_eq_getElem?_getD, show (l.length - 1 : Int).toNat = l.length - 1 from by omega, List.getElem?_eq_getElem (by omega)]
    rfl
  simp only [putS, h1]
/-- put: it appends to a row that the caller owns. -/
def Put188 (w0 w : World) (base : Nat) (v : Value) (r : List S152) (e : Ending) (w' : World) : Prop :=
  ∃ v1, e = .returned v1 ∧ Kd.R k152 152 w' base (fun _ => True) v1 r ∧ Below base w0 w' ∧ w.grownBy w' v.ownBlock ∧ (v1.ownBlock = v.ownBlock ∨ ∃ b, v1.ownBlock = some b ∧ w.heap.size ≤ b)
set_option maxHeartbeats 1000000 in
theorem c188 (v : Value) (xs : List S152) (x n : Int) (w0 w : World) (base : Nat) (HO : Kd.R k152 152 w base (fun _ => True) v xs) (HB : Below base w0 w) (hbase : base ≤ w.heap.size) (hl : xs.length ≤ 1000000) :
    Calls Tryz.prog 129 #[v, .int .i64 x, .int .i64 n] w (Put188 w0 w base v (putS xs x n)) := by
  obtain ⟨A, c, rfl⟩ := Kd.R_slice HO
  have hr := (Kd.R_reads' HO).2.2
  have HO := Aside0.mk HO
  have HB := Aside0.mk HB
  have HG : ∃ u, u = (Value.slice A xs.length c) := ⟨_, rfl⟩
  by_cases h0 : 0 < xs.length
  · have hp := Lib.hid (putS_last h0 x n)
    obtain ⟨ad, rfl, x0, x1⟩ := at_T152 hr (xs.length - 1 : Int) (by omega) (by omega)
    have e1 : (0 : Int) ≤ (xs.length : Int) - 1 := by omega
    have e2 : (xs.length : Int) - 1 < xs.length := by omega
    rw [show ((xs.length : Int) - 1).toNat = xs.length - 1 from by omega] at x0 x1
    clear hr
    go_enter Tryz.func129, Tryz.ntmps129
    go_wp2_with (at_builtin; refine Kd.R_append k152 (w0 := w0) base rfl (.tmp 23) (.tmp 27) 118 152 (.agg #[(.int .i64 0), (.int .i64 0)]) 16 rfl Tryz.underlying118 info152 rfl (by decide) (by omega) (.slice (some ad) xs.length c) xs ⟨x, n⟩ [.int .i64 x, .int .i64 n] (fun _ => True) (fun _ => False) rfl rfl (k152_mkM _ _ _ ⟨x, n⟩) (fun _ hk => hk.elim) (fun _ _ => trivial) ?aO ?aB ?aS ?aL ?_; (case aO => exact HO.out); (case aB => exact HB.out); (case aS => exact hbase); (case aL => exact (by omega)); intro v1 w1 ho hb hg hat; skip)
    · have hne : ((rd_T152 xs (xs.length - 1 : Int)).f1 == n) = true := by assumption
      go_ret
      exact ⟨_, rfl, by rw [hp.out, if_pos (by simpa using hne)]; exact HO.out, HB.out, grown_of_below (Below.refl _ _) _, .inl rfl⟩
    · have hne : ((rd_T152 xs (xs.length - 1 : Int)).f1 == n) = false := by assumption
      go_ret
      exact ⟨_, rfl, by rw [hp.out, if_neg (by simpa using hne)]; exact ho, hb, hg, hat⟩
  · clear hr
    go_enter Tryz.func129, Tryz.ntmps129
    go_wp2_with (at_builtin; refine Kd.R_append k152 (w0 := w0) base rfl (.tmp 23) (.tmp 27) 118 152 (.agg #[(.int .i64 0), (.int .i64 0)]) 16 rfl Tryz.underlying118 info152 rfl (by decide) (by omega) (.slice A xs.length c) xs ⟨x, n⟩ [.int .i64 x, .int .i64 n] (fun _ => True) (fun _ => False) rfl rfl (k152_mkM _ _ _ ⟨x, n⟩) (fun _ hk => hk.elim) (fun _ _ => trivial) ?aO ?aB ?aS ?aL ?_; (case aO => exact HO.out); (case aB => exact HB.out); (case aS => exact hbase); (case aL => exact (by omega)); intro v1 w1 ho hb hg hat; skip)
    obtain rfl : xs = [] := List.eq_nil_of_length_eq_zero (by omega)
    go_ret
    exact ⟨_, rfl, ho, hb, hg, hat⟩
end Go.Proofs.YtiamihkfphmohaaGreatDoor.PA
