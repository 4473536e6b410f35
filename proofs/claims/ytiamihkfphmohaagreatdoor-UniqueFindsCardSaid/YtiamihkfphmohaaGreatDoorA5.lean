import Derived.Shelf.SlSortCmp.QuietGrown
import Derived.Deep.RegionHeld3
import Derived.Lib.Hide
import Derived.WalkLawsBesides
import Derived.WalkSpells
import Derived.IntWalk
import Derived.Lib.LazyBuf
import Derived.Sort.Grow
import Derived.Ground.SlsfProg
import Derived.Shelf.SlSortCmp.NoneTotal
import Derived.Shelf.SlSortCmp.Insertion1
import Derived.Sort.LotA
import Derived.Test.YtiamihkfphmohaaGreatDoorShelf
import Derived.Test.YtiamihkfphmohaaGreatDoorA4
import Derived.Test.YtiamihkfphmohaaGreatDoorA3
set_option linter.unusedVariables false
set_option linter.unusedSimpArgs false

namespace Go.Proofs.YtiamihkfphmohaaGreatDoor.PA
open Go.RowKit Go.Proofs.YtiamihkfphmohaaGreatDoorW.PrintWords Go.Proofs.YtiamihkfphmohaaGreatDoorW.PrintLast Go.Proofs.YtiamihkfphmohaaGreatDoorW.PrintMore

open Go.Sort
attribute [local irreducible] Go.wpQuiet
set_option maxHeartbeats 2000000 in
set_option maxRecDepth 100000 in
theorem q123 (t : Tbl) (A1 A2 A3 A4 : Option Addr) (c1 c2 c3 c4 : Nat) (w : World) (hT : TK w t A1 A2 A3 A4 c1 c2 c3 c4) (hI : TIn t) (hc : t.cols.length ≤ 1000) : Calls Tryz.prog 123 #[.agg #[.string t.nm, .slice A1 t.cols.length c1, .slice A2 t.key.length c2, .slice A3 t.fors.length c3, .slice A4 t.chks.length c4]] w (IntRes w) := by
  have hTK := hT
  have hml3 : t.fors.length ≤ 9223372036854775807 := by have := hI.forsl; rw [maxl] at this; exact this
  have hml4 : t.chks.length ≤ 9223372036854775807 := by have := hI.chksl; rw [maxl] at this; exact this
  go_enter Tryz.func123, Tryz.ntmps123
  by_cases hz : 4 < t.fors.length
  · have hz1 : (4 : Int) < t.fors.length := by omega
    go_wp2
    go_ret
    exact int_mk rfl (below_alloc (Below.refl _ _) _)
  have hz1 : ¬ (4 : Int) < t.fors.length := by omega
  have hb0 : Below w.heap.size w (w.alloc (.cells #[.string t.nm, .slice A1 t.cols.length c1, .slice A2 t.key.length c2, .slice A3 t.fors.length c3, .slice A4 t.chks.length c4] 27)) := below_alloc (Below.refl _ _) _
  have hbx : (w.alloc (.cells #[.string t.nm, .slice A1 t.cols.length c1, .slice A2 t.key.length c2, .slice A3 t.fors.length c3, .slice A4 t.chks.length c4] 27)).heap[w.heap.size]? = some (.cells #[.string t.nm, .slice A1 t.cols.length c1, .slice A2 t.key.length c2, .slice A3 t.fors.length c3, .slice A4 t.chks.length c4] 27 (0, 0)) := blk_new _ _
  have HB := Aside0.mk hb0
  have HX := Aside0.mk hbx
  have HK := Aside0.mk (hT.below hb0)
  have HI := Lib.hid hI
  clear hb0 hbx hT hI
  go_wp2
  generalize w.alloc (.cells #[.string t.nm, .slice A1 t.cols.length c1, .slice A2 t.key.length c2, .slice A3 t.fors.length c3, .slice A4 t.chks.length c4] 27) = W0 at *
  clear hz1 hz HK
  go_loopw [3] (fun i wr => ∃ k : Nat, i = .int .i64 k ∧ k ≤ t.fors.length ∧ Aside0 (Below w.heap.size w wr) ∧ Aside0 (wr.heap[w.heap.size]? = some (.cells #[.string t.nm, .slice A1 t.cols.length c1, .slice A2 t.key.length c2, .slice A3 t.fors.length c3, .slice A4 t.chks.length c4] 27 (0, 0)))) (fun i _ => t.fors.length - (intOf i).toNat)
  case atStart => exact ⟨0, rfl, Nat.zero_le _, HB, HX⟩
  case round =>
    clear HB HX
    obtain ⟨k, rfl, hk', HB, HX⟩ := hrel
    have t0 : (wr).cell? ⟨w.heap.size, 0, none⟩ = some (.string t.nm) := by rw [blk_cell HX.out]; rfl
    have t1 : (wr).cell? ⟨w.heap.size, 1, none⟩ = some (.slice A1 t.cols.length c1) := by rw [blk_cell HX.out]; rfl
    have t2 : (wr).cell? ⟨w.heap.size, 2, none⟩ = some (.slice A2 t.key.length c2) := by rw [blk_cell HX.out]; rfl
    have t3 : (wr).cell? ⟨w.heap.size, 3, none⟩ = some (.slice A3 t.fors.length c3) := by rw [blk_cell HX.out]; rfl
    have t4 : (wr).cell? ⟨w.heap.size, 4, none⟩ = some (.slice A4 t.chks.length c4) := by rw [blk_cell HX.out]; rfl
    have tl : w.heap.size < wr.heap.size := World.block_lt_of_cell? _ _ t1
    by_cases h1 : k < t.fors.length
    · have hk1 : (0 : Int) ≤ k := by omega
      have hk2 : (k : Int) < t.fors.length := by omega
      have hmem : rd_T64 t.fors k ∈ t.fors := by simp [rd_T64, h1]
      obtain ⟨xa, AF, cf, exa, x0, x1, _, hCF⟩ := at_T64 (Kd.C_below hTK.fors HB.out) k (by omega) (by omega)
      subst exa
      rw [Int.toNat_natCast] at x0 x1
      have xbl := World.block_lt_of_cell? _ _ x0
      have HCF := Aside0.mk hCF
      clear hCF
      go_wp2_with fail
      go_region_held3 (fun W => Below wr.heap.size wr W ∧ W.cell? ⟨w.heap.size, 0, none⟩ = some (.string t.nm) ∧ W.cell? ⟨w.heap.size, 1, none⟩ = some (.slice A1 t.cols.length c1) ∧ W.cell? ⟨w.heap.size, 2, none⟩ = some (.slice A2 t.key.length c2) ∧ W.cell? ⟨w.heap.size, 3, none⟩ = some (.slice (some xa) t.fors.length c3) ∧ W.cell? ⟨w.heap.size, 4, none⟩ = some (.slice A4 t.chks.length c4) ∧ W.cell? (xa.add (k * 2)) = some (.slice AF (rd_T64 t.fors k).f0.length cf) ∧ W.cell? ⟨(xa.add (k * 2)).block, (xa.add (k * 2)).off + 1, none⟩ = some (.string (rd_T64 t.fors k).f1))
        (first
          | (go_split_ands; refine ⟨?_, ?_, ?_, ?_, ?_, ?_, ?_, ?_⟩ <;> first | exact bthen (by assumption) hbc | exact pw_cell_below hbc (by assumption))
          | (go_split_ands; refine ⟨?_, ?_, ?_, ?_, ?_, ?_, ?_, ?_⟩ <;> first | exact below_drew (Below.refl _ _) | exact below_alloc (by assumption) _ | exact pw_cell_below (below_drew (Below.refl _ _)) (by assumption) | go_keep))
        (first
          | (go_at_call 157; refine (q157 t _ _ _ _ _ _ _ _ (rd_T64 t.fors k) AF cf _ (hTK.below (bthen HB.out (And.left (by assumption)))) HI.out (Kd.C_below HCF.out (And.left (by assumption))) (HI.out.fors _ hmem)).mono ?_; rintro e w2 ⟨n2, rfl, hb2⟩; have hbc := hb2; have hbf : Below wr.heap.size wr w2 := bthen (And.left (by assumption)) hb2))
      all_goals
        have HB2 := Aside0.mk (bthen HB.out hbf)
        have HX2 := Aside0.mk (blk_below HX.out hbf)
        go_wp2
        all_goals first
          | (go_ret; exact int_mk rfl HB2.out)
          | exact ⟨⟨k + 1, by go_num, h1, HB2, HX2⟩, by simp [intOf]; omega⟩
    · by_cases hz : 4 < t.chks.length
      · have hz1 : (4 : Int) < t.chks.length := by omega
        go_wp2
        go_ret
        exact int_mk rfl HB.out
      have hz1 : ¬ (4 : Int) < t.chks.length := by omega
      go_wp2
      clear hz1 hz t0 t1 t2 t3 t4 tl
      go_loopw [5] (fun i wr => ∃ k : Nat, i = .int .i64 k ∧ k ≤ t.chks.length ∧ Aside0 (Below w.heap.size w wr) ∧ Aside0 (wr.heap[w.heap.size]? = some (.cells #[.string t.nm, .slice A1 t.cols.length c1, .slice A2 t.key.length c2, .slice A3 t.fors.length c3, .slice A4 t.chks.length c4] 27 (0, 0)))) (fun i _ => t.chks.length - (intOf i).toNat)
      case atStart => exact ⟨0, rfl, Nat.zero_le _, HB, HX⟩
      case round =>
        clear HB HX
        obtain ⟨k, rfl, hk', HB, HX⟩ := hrel
        have t0 : (wr).cell? ⟨w.heap.size, 0, none⟩ = some (.string t.nm) := by rw [blk_cell HX.out]; rfl
        have t1 : (wr).cell? ⟨w.heap.size, 1, none⟩ = some (.slice A1 t.cols.length c1) := by rw [blk_cell HX.out]; rfl
        have t2 : (wr).cell? ⟨w.heap.size, 2, none⟩ = some (.slice A2 t.key.length c2) := by rw [blk_cell HX.out]; rfl
        have t3 : (wr).cell? ⟨w.heap.size, 3, none⟩ = some (.slice A3 t.fors.length c3) := by rw [blk_cell HX.out]; rfl
        have t4 : (wr).cell? ⟨w.heap.size, 4, none⟩ = some (.slice A4 t.chks.length c4) := by rw [blk_cell HX.out]; rfl
        have tl : w.heap.size < wr.heap.size := World.block_lt_of_cell? _ _ t1
        by_cases h1 : k < t.chks.length
        · have hk1 : (0 : Int) ≤ k := by omega
          have hk2 : (k : Int) < t.chks.length := by omega
          have hmem : rd_T191 t.chks k ∈ t.chks := by simp [rd_T191, h1]
          obtain ⟨xa, A6, c6, exa, x0, x1, x2, x3, x4, x5, x6, _, hC6⟩ := at_T191 (Kd.C_below hTK.chks HB.out) k (by omega) (by omega)
          subst exa
          rw [Int.toNat_natCast] at x0 x1 x2 x3 x4 x5 x6
          have xbl := World.block_lt_of_cell? _ _ x0
          have HC6 := Aside0.mk hC6
          clear hC6
          go_wp2_with fail
          go_region_held3 (fun W => Below wr.heap.size wr W ∧ W.cell? ⟨w.heap.size, 0, none⟩ = some (.string t.nm) ∧ W.cell? ⟨w.heap.size, 1, none⟩ = some (.slice A1 t.cols.length c1) ∧ W.cell? ⟨w.heap.size, 2, none⟩ = some (.slice A2 t.key.length c2) ∧ W.cell? ⟨w.heap.size, 3, none⟩ = some (.slice A3 t.fors.length c3) ∧ W.cell? ⟨w.heap.size, 4, none⟩ = some (.slice (some xa) t.chks.length c4) ∧ W.cell? (xa.add (k * 7)) = some (.int .i64 (rd_T191 t.chks k).f0) ∧ W.cell? (⟨(xa.add (k * 7)).block, (xa.add (k * 7)).off + 1, none⟩) = some (.int .i64 (rd_T191 t.chks k).f1) ∧ W.cell? (⟨(xa.add (k * 7)).block, (xa.add (k * 7)).off + 2, none⟩) = some (.int .i64 (rd_T191 t.chks k).f2.f0) ∧ W.cell? (⟨(xa.add (k * 7)).block, (xa.add (k * 7)).off + 3, none⟩) = some (.int .i64 (rd_T191 t.chks k).f2.f1) ∧ W.cell? (⟨(xa.add (k * 7)).block, (xa.add (k * 7)).off + 4, none⟩) = some (.string (rd_T191 t.chks k).f2.f2) ∧ W.cell? (⟨(xa.add (k * 7)).block, (xa.add (k * 7)).off + 5, none⟩) = some (.string (rd_T191 t.chks k).f3) ∧ W.cell? (⟨(xa.add (k * 7)).block, (xa.add (k * 7)).off + 6, none⟩) = some (.slice A6 (rd_T191 t.chks k).f4.length c6))
            (first
              | (go_split_ands; refine ⟨?_, ?_, ?_, ?_, ?_, ?_, ?_, ?_, ?_, ?_, ?_, ?_, ?_⟩ <;> first | exact bthen (by assumption) hbc | exact pw_cell_below hbc (by assumption))
              | (go_split_ands; refine ⟨?_, ?_, ?_, ?_, ?_, ?_, ?_, ?_, ?_, ?_, ?_, ?_, ?_⟩ <;> first | exact below_drew (Below.refl _ _) | exact below_alloc (by assumption) _ | exact pw_cell_below (below_drew (Below.refl _ _)) (by assumption) | go_keep))
            (first
              | (go_at_call 84; refine (q84 t _ _ _ _ _ _ _ _ _ (hTK.below (bthen HB.out (And.left (by assumption)))) HI.out hc).mono ?_; rintro e w2 ⟨v2, rfl, hO, hb2⟩; obtain ⟨A8, c8, rfl⟩ := Kd.R_slice hO; have hr8 := Kd.R_reads' hO; have hbc := hb2; have hbf : Below wr.heap.size wr w2 := bthen (And.left (by assumption)) hb2)
              | (go_at_call 158; refine (q158 (HI.out.chks _ hmem) A6 c6 (kindsT t) A8 c8 _ (Kd.C_below HC6.out hbf) hr8.2.2).mono ?_; rintro e w3 ⟨n3, m3, rfl, hb3⟩; have hbc := hb3; have hbg : Below wr.heap.size wr w3 := bthen hbf hb3))
          all_goals
            have HB2 := Aside0.mk (bthen HB.out hbg)
            have HX2 := Aside0.mk (blk_below HX.out hbg)
            go_wp2
            all_goals first
              | (go_ret; exact int_mk rfl HB2.out)
              | exact ⟨⟨k + 1, by go_num, h1, HB2, HX2⟩, by simp [intOf]; omega⟩
        · go_wp2
          go_ret
          exact int_mk rfl HB.out
end Go.Proofs.YtiamihkfphmohaaGreatDoor.PA

namespace Go.Proofs.YtiamihkfphmohaaGreatDoor.PA
open Go.RowKit Go.Proofs.YtiamihkfphmohaaGreatDoorW.PrintWords Go.Proofs.YtiamihkfphmohaaGreatDoorW.PrintLast Go.Proofs.YtiamihkfphmohaaGreatDoorW.PrintMore

open Go.Sort
attribute [local irreducible] Go.wpQuiet
/-- A printable byte. -/
def POK (s : ByteArray) (j : Nat) : Prop := ∃ h : j < s.size, 32 ≤ (s[j].toNat : Int) ∧ (s[j].toNat : Int) ≤ 126
def prnP (s : ByteArray) : Prop := ∀ j, j < s.size → POK s j
open Classical in
set_option maxHeartbeats 600000 in
theorem q182x (s : ByteArray) (hs : s.size ≤ 9223372036854775807) (b : Bool) (hb : decide (prnP s) = b) (w : World) : Calls Tryz.prog 182 #[.string s] w (fun e w' => e = .returned (.bool b) ∧ w' = w) := by
  go_enter Tryz.func182, Tryz.ntmps182
  go_wp2
  go_loopw [3] (fun i wr => ∃ k : Nat, i = .int .i64 k ∧ k ≤ s.size ∧ wr = w ∧ Aside0 (∀ j : Nat, j < k → POK s j)) (fun i _ => s.size - (intOf i).toNat)
  case atStart => exact ⟨0, rfl, Nat.zero_le _, rfl, ⟨fun _ h => by omega⟩⟩
  case round =>
    obtain ⟨k, rfl, hk', rfl, HP⟩ := hrel
    by_cases h1 : k < s.size
    · have hk1 : (0 : Int) ≤ k := by omega
      have hk2 : (k : Int) < s.size := by omega
      by_cases hp : 32 ≤ (s[k].toNat : Int) ∧ (s[k].toNat : Int) ≤ 126
      · have hp1 : ¬ (s[k].toNat : Int) < 32 := by omega
        have hp2 : ¬ 126 < (s[k].toNat : Int) := by omega
        have HH := Aside0.mk (show POK s k from ⟨h1, hp⟩)
        clear hp
        go_wp2
        exact ⟨⟨k + 1, by go_num, h1, trivial, ⟨fun j hj => by
          rcases Nat.lt_succ_iff_lt_or_eq.1 hj with h | h
          · exact HP.out j h
          · subst h; exact HH.out⟩⟩, by simp [intOf]; omega⟩
      · have hbf : b = false := by
          rw [← hb]
          exact decide_eq_false (fun h => hp (h k h1).2)
        subst hbf
        clear hb
        by_cases hp1 : (s[k].toNat : Int) < 32
        · go_wp2
          go_ret
          exact ⟨rfl, rfl⟩
        · have hp2 : 126 < (s[k].toNat : Int) := by omega
          go_wp2
          go_ret
          exact ⟨rfl, rfl⟩
    · have hbt : b = true := by
        rw [← hb]
        exact decide_eq_true (fun j hj => HP.out j (by omega))
      subst hbt
      clear hb
      go_wp2
      go_ret
      exact ⟨rfl, rfl⟩
/-- A valid value (P7.1). -/
def valP (v : S82) : Prop := (v.f0 = 0 ∧ v.f1 = 0 ∧ v.f2.toList = []) ∨ (v.f0 = 1 ∧ v.f2.toList = [] ∧ -1125899906842624 ≤ v.f1 ∧ v.f1 ≤ 1125899906842624) ∨ (v.f0 = 2 ∧ v.f1 = 0 ∧ v.f2.size ≤ 200 ∧ prnP v.f2) ∨ (v.f0 = 3 ∧ v.f2.toList = [] ∧ (v.f1 = 0 ∨ v.f1 = 1))
theorem vok_valP {v : S82} (h : valP v) : VOK v := by
  obtain ⟨a, b, s⟩ := v
  have hsz := size_toList s
  rcases h with ⟨h0, h1, h2⟩ | ⟨h0, h2, h1, h3⟩ | ⟨h0, h1, h2, _⟩ | ⟨h0, h2, h1⟩ <;> simp only at h0 h1 h2 <;> refine vok_of ?_ ?_ ?_ <;> simp_all <;> omega
theorem rbq {x y : Bool} (h : x = y) : Ending.returned (.bool x) = Ending.returned (.bool y) := by rw [h]
open Classical in
set_option maxHeartbeats 1000000 in
theorem q159x (v : S82) (hs : v.f2.size ≤ 9223372036854775807) (r : Bool) (hr : decide (valP v) = r) (w : World) : Calls Tryz.prog 159 #[.agg #[.int .i64 v.f0, .int .i64 v.f1, .string v.f2]] w fun e w' => e = .returned (.bool r) ∧ ∃ q os', w' = grow (w.drewN q) os' := by
  subst hr
  obtain ⟨a, b, s⟩ := v
  have HV := Lib.hid (decide_eq_true_iff (p := valP ⟨a, b, s⟩))
  generalize decide (valP ⟨a, b, s⟩) = r at *
  simp only at hs
  go_enter Tryz.func159, Tryz.ntmps159
  go_wp2_with (go_at_call 182; refine (q182x s hs _ rfl _).mono ?_; rintro e w1 ⟨rfl, rfl⟩)
  all_goals
    go_ret
    refine ⟨rbq ?_, 0, _, by rw [alloc_eq_grow]; rfl⟩
    have hv := HV.out
    clear HV
    unfold valP at hv
    simp only at hv
    rw [Bool.eq_iff_iff, hv]
    clear hv
    first
      | (simp_all; done)
      | (simp_all; omega)
end Go.Proofs.YtiamihkfphmohaaGreatDoor.PA

namespace Go.Proofs.YtiamihkfphmohaaGreatDoor.PA
open Go.RowKit Go.Proofs.YtiamihkfphmohaaGreatDoorW.PrintWords Go.Proofs.YtiamihkfphmohaaGreatDoorW.PrintLast Go.Proofs.YtiamihkfphmohaaGreatDoorW.PrintMore

open Go.Sort
attribute [local irreducible] Go.wpQuiet
/-- w after some draws and with blocks laid behind it. -/
def GrB (w w' : World) : Prop := ∃ q os, w' = grow (w.drewN q) os
theorem GrB.refl (w : World) : GrB w w := ⟨0, #[], by rw [grow_empty]; rfl⟩
theorem GrB.step {w w' : World} (h : GrB w w') (n : Nat) (os : Array Obj) : GrB w (grow (w'.drewN n) os) := by
  obtain ⟨q, os', rfl⟩ := h
  exact ⟨q + n, os' ++ os, by show grow (grow ((w.drewN q).drewN n) os') os = _; rw [grow_grow, World.drewN_drewN]⟩
theorem GrB.below {w w' : World} (h : GrB w w') : Below w.heap.size w w' := by
  obtain ⟨q, os', rfl⟩ := h
  exact below_gr w q os'
theorem GrB.alloc (w : World) (o : Obj) : GrB w (w.alloc o) := ⟨0, #[o], by rw [alloc_eq_grow]; rfl⟩
theorem ent159 : ∀ args w, (callFunc 159 args).run Tryz.prog w = .ok (.enter 159 args) w := enters_of Tryz.func159 (by kernel_rfl) rfl
def fit1 (v : S82) (k : Int) : Prop := valP v ∧ (v.f0 = 0 ∨ v.f0 = k)
/-- The row has the kinds (P8.1). -/
def fitP (row : List S82) (ks : List Int) : Prop := row.length = ks.length ∧ ∀ j : Nat, j < row.length → fit1 (rd_T82 row j) (rd ks j)
open Classical in
set_option maxHeartbeats 2000000 in
set_option maxRecDepth 100000 in
theorem q124x (row : List S82) (ks : List Int) (A A2 : Option Addr) (c c2 : Nat) (w : World) (hC : k82.C w A row.length row) (hK : (Kd.int .i64).C w A2 ks.length ks) (hrow : ∀ v ∈ row, VIn v) (hl1 : row.length ≤ 9223372036854775807) (hl2 : ks.length ≤ 9223372036854775807) (b : Bool) (hb : decide (fitP row ks) = b) : Calls Tryz.prog 124 #[.slice A row.length c, .slice A2 ks.length c2] w fun e w' => e = .returned (.bool b) ∧ GrB w w' := by
  have mixed := mixedT
  have e159 := ent159
  have HC := Aside0.mk hC
  have HK := Aside0.mk hK
  have HR := Lib.hid hrow
  have HE := Lib.hid hb
  clear hC hK hrow hb
  go_enter Tryz.func124, Tryz.ntmps124
  by_cases hz : ¬ row.length = ks.length
  · have hz1 : ((row.length : Int) != (ks.length : Int)) = true := by rw [bne_iff_ne]; omega
    have hbf : b = false := by rw [← HE.out]; exact decide_eq_false (fun h => hz h.1)
    subst hbf
    go_wp2
    go_ret
    exact ⟨rfl, GrB.refl _⟩
  replace hz := Classical.not_not.1 hz
  have hz1 : ((row.length : Int) != (ks.length : Int)) = false := by simp [hz]
  go_wp2
  have HZ := Lib.hid hz
  clear hz1 hz
  go_loopw [5] (fun i wr => ∃ k : Nat, i = .int .i64 k ∧ k ≤ row.length ∧ Aside0 (GrB w wr) ∧ Aside0 (∀ j : Nat, j < k → fit1 (rd_T82 row j) (rd ks j))) (fun i _ => row.length - (intOf i).toNat)
  case atStart => exact ⟨0, rfl, Nat.zero_le _, ⟨GrB.refl _⟩, ⟨fun _ h => by omega⟩⟩
  case round =>
    obtain ⟨k, rfl, hk', HB, HP⟩ := hrel
    by_cases h1 : k < row.length
    · have hk1 : (0 : Int) ≤ k := by omega
      have hk2 : (k : Int) < row.length := by omega
      have hk3 : (k : Int) < ks.length := by have := HZ.out; omega
      have hmem : rd_T82 row k ∈ row := by simp [rd_T82, h1]
      have hvs : (rd_T82 row k).f2.size ≤ 9223372036854775807 := by have := (HR.out _ hmem).2; rw [maxl] at this; exact this
      obtain ⟨xa, exa, x0, x1, x2⟩ := at_T82 (Kd.C_below HC.out HB.out.below) k (by omega) (by omega)
      subst exa
      rw [Int.toNat_natCast] at x0 x1 x2
      have xbl : (xa.add (k * 3)).block < wr.heap.size := World.block_lt_of_cell? _ _ x0
      obtain ⟨ya, eya, y0⟩ := Kd.at_int (Kd.C_below HK.out HB.out.below) k (by omega) (by omega)
      subst eya
      rw [Int.toNat_natCast] at y0
      have ybl : (ya.add k).block < wr.heap.size := World.block_lt_of_cell? _ _ y0
      clear hmem
      by_cases hv : valP (rd_T82 row k)
      · have HV := Lib.hid (decide_eq_true hv)
        have HVP := Lib.hid hv
        clear hv
        by_cases hn : (rd_T82 row k).f0 = 0
        · have hn1 : ((rd_T82 row k).f0 != 0) = false := by simp [hn]
          have HN := Lib.hid hn
          clear hn
          go_wp2_with fail
          have g0 := cell_grown xbl x0
          have g1 := cell_grown (a := ⟨(xa.add (k * 3)).block, (xa.add (k * 3)).off + 1, none⟩) xbl x1
          have g2 := cell_grown (a := ⟨(xa.add (k * 3)).block, (xa.add (k * 3)).off + 2, none⟩) xbl x2
          have gy := cell_grown ybl y0
          clear x0 x1 x2 y0
          go_quiet_grown ((go_at_fn 159; refine Calls.grown_of (q159x (rd_T82 row k) hvs true HV.out _)))
          have HB2 := Aside0.mk (HB.out.step nq osq)
          clear g0 g1 g2 gy
          generalize grow (wr.drewN nq) osq = w2 at *
          go_wp2
          exact ⟨⟨k + 1, by go_num, h1, HB2, ⟨fun j hj => by
            rcases Nat.lt_succ_iff_lt_or_eq.1 hj with h | h
            · exact HP.out j h
            · subst h; exact ⟨HVP.out, .inl HN.out⟩⟩⟩, by simp [intOf]; omega⟩
        · have hn1 : ((rd_T82 row k).f0 != 0) = true := by simpa using hn
          by_cases he : (rd_T82 row k).f0 = rd ks k
          · have he1 : ((rd_T82 row k).f0 != rd ks k) = false := by simp [he]
            have HN := Lib.hid he
            clear he hn
            go_wp2_with fail
            have g0 := cell_grown xbl x0
            have g1 := cell_grown (a := ⟨(xa.add (k * 3)).block, (xa.add (k * 3)).off + 1, none⟩) xbl x1
            have g2 := cell_grown (a := ⟨(xa.add (k * 3)).block, (xa.add (k * 3)).off + 2, none⟩) xbl x2
            have gy := cell_grown ybl y0
            clear x0 x1 x2 y0
            go_quiet_grown ((go_at_fn 159; refine Calls.grown_of (q159x (rd_T82 row k) hvs true HV.out _)))
            have HB2 := Aside0.mk (HB.out.step nq osq)
            clear g0 g1 g2 gy
            generalize grow (wr.drewN nq) osq = w2 at *
            go_wp2
            exact ⟨⟨k + 1, by go_num, h1, HB2, ⟨fun j hj => by
              rcases Nat.lt_succ_iff_lt_or_eq.1 hj with h | h
              · exact HP.out j h
              · subst h; exact ⟨HVP.out, .inr HN.out⟩⟩⟩, by simp [intOf]; omega⟩
          · have he1 : ((rd_T82 row k).f0 != rd ks k) = true := by simpa using he
            have hbf : b = false := by
              rw [← HE.out]
              exact decide_eq_false (fun h => by rcases (h.2 k h1).2 with h2 | h2; exact hn h2; exact he h2)
            subst hbf
            clear hn he
            go_wp2_with fail
            have g0 := cell_grown xbl x0
            have g1 := cell_grown (a := ⟨(xa.add (k * 3)).block, (xa.add (k * 3)).off + 1, none⟩) xbl x1
            have g2 := cell_grown (a := ⟨(xa.add (k * 3)).block, (xa.add (k * 3)).off + 2, none⟩) xbl x2
            have gy := cell_grown ybl y0
            clear x0 x1 x2 y0
            go_quiet_grown ((go_at_fn 159; refine Calls.grown_of (q159x (rd_T82 row k) hvs true HV.out _)))
            have HB2 := Aside0.mk (HB.out.step nq osq)
            clear g0 g1 g2 gy
            generalize grow (wr.drewN nq) osq = w2 at *
            go_wp2
            go_ret
            exact ⟨rfl, HB2.out⟩
      · have HV := Lib.hid (decide_eq_false hv)
        have hbf : b = false := by
          rw [← HE.out]
          exact decide_eq_false (fun h => hv (h.2 k h1).1)
        subst hbf
        clear hv
        go_wp2_with fail
        have g0 := cell_grown xbl x0
        have g1 := cell_grown (a := ⟨(xa.add (k * 3)).block, (xa.add (k * 3)).off + 1, none⟩) xbl x1
        have g2 := cell_grown (a := ⟨(xa.add (k * 3)).block, (xa.add (k * 3)).off + 2, none⟩) xbl x2
        have gy := cell_grown ybl y0
        clear x0 x1 x2 y0
        go_quiet_grown ((go_at_fn 159; refine Calls.grown_of (q159x (rd_T82 row k) hvs false HV.out _)))
        have HB2 := Aside0.mk (HB.out.step nq osq)
        clear g0 g1 g2 gy
        generalize grow (wr.drewN nq) osq = w2 at *
        go_wp2
        go_ret
        exact ⟨rfl, HB2.out⟩
    · have hbt : b = true := by
        rw [← HE.out]
        exact decide_eq_true ⟨HZ.out, fun j hj => HP.out j (by omega)⟩
      subst hbt
      go_wp2
      go_ret
      exact ⟨rfl, HB.out⟩
end Go.Proofs.YtiamihkfphmohaaGreatDoor.PA

namespace Go.Proofs.YtiamihkfphmohaaGreatDoor.PA
open Go.RowKit Go.Proofs.YtiamihkfphmohaaGreatDoorW.PrintWords Go.Proofs.YtiamihkfphmohaaGreatDoorW.PrintLast Go.Proofs.YtiamihkfphmohaaGreatDoorW.PrintMore

open Go.Sort
attribute [local irreducible] Go.wpQuiet
set_option maxHeartbeats 2000000 in
set_option maxRecDepth 100000 in
theorem q82 (t : Tbl) (A1 A2 A3 A4 : Option Addr) (c1 c2 c3 c4 : Nat) (w : World) (hT : TK w t A1 A2 A3 A4 c1 c2 c3 c4) (hI : TIn t) (hc : t.cols.length ≤ 1000) : Calls Tryz.prog 82 #[.agg #[.string t.nm, .slice A1 t.cols.length c1, .slice A2 t.key.length c2, .slice A3 t.fors.length c3, .slice A4 t.chks.length c4]] w (KyRes t.key.length t.cols.length w) := by
  have hns : t.nm.size ≤ 9223372036854775807 := by have := hI.nm; rw [maxl] at this; exact this
  have HT := Aside0.mk hT
  have HI := Lib.hid hI
  have HC := Lib.hid hc
  have hpt := blk_new w (.cells #[.string t.nm, .slice A1 t.cols.length c1, .slice A2 t.key.length c2, .slice A3 t.fors.length c3, .slice A4 t.chks.length c4] 27)
  clear hT hI hc
  go_enter Tryz.func82, Tryz.ntmps82
  go_wp2_with fail
  refine (q120 _ hns _).mono ?_
  rintro e w1 ⟨b1, rfl, hb1⟩
  have HB1 := Aside0.mk (bel1 hb1)
  have HX1 := Aside0.mk (blk_below hpt hb1)
  clear hpt hb1
  cases b1 with
  | false =>
    go_wp2
    go_ret
    exact ky_mk rfl (fun h => absurd h (by decide)) HB1.out
  | true =>
    have t0 : (w1).cell? ⟨w.heap.size, 0, none⟩ = some (.string t.nm) := by rw [blk_cell HX1.out]; rfl
    have t1 : (w1).cell? ⟨w.heap.size, 1, none⟩ = some (.slice A1 t.cols.length c1) := by rw [blk_cell HX1.out]; rfl
    have t2 : (w1).cell? ⟨w.heap.size, 2, none⟩ = some (.slice A2 t.key.length c2) := by rw [blk_cell HX1.out]; rfl
    have t3 : (w1).cell? ⟨w.heap.size, 3, none⟩ = some (.slice A3 t.fors.length c3) := by rw [blk_cell HX1.out]; rfl
    have t4 : (w1).cell? ⟨w.heap.size, 4, none⟩ = some (.slice A4 t.chks.length c4) := by rw [blk_cell HX1.out]; rfl
    have tl := World.block_lt_of_cell? _ _ t1
    go_wp2_with fail
    refine (q121 t A1 A2 A3 A4 c1 c2 c3 c4 _ (HT.out.below HB1.out) HI.out).mono ?_
    rintro e w2 ⟨n2, rfl, hb2⟩
    clear t0 t1 t2 t3 t4 tl
    have HB2 := Aside0.mk (bthen HB1.out hb2)
    have HX2 := Aside0.mk (blk_below HX1.out hb2)
    clear HB1 HX1 hb2
    by_cases hz : n2 = 0
    · subst hz
      have t0 : (w2).cell? ⟨w.heap.size, 0, none⟩ = some (.string t.nm) := by rw [blk_cell HX2.out]; rfl
      have t1 : (w2).cell? ⟨w.heap.size, 1, none⟩ = some (.slice A1 t.cols.length c1) := by rw [blk_cell HX2.out]; rfl
      have t2 : (w2).cell? ⟨w.heap.size, 2, none⟩ = some (.slice A2 t.key.length c2) := by rw [blk_cell HX2.out]; rfl
      have t3 : (w2).cell? ⟨w.heap.size, 3, none⟩ = some (.slice A3 t.fors.length c3) := by rw [blk_cell HX2.out]; rfl
      have t4 : (w2).cell? ⟨w.heap.size, 4, none⟩ = some (.slice A4 t.chks.length c4) := by rw [blk_cell HX2.out]; rfl
      have tl := World.block_lt_of_cell? _ _ t1
      go_wp2_with fail
      refine (q122 t A1 A2 A3 A4 c1 c2 c3 c4 _ (HT.out.below HB2.out) HI.out).mono ?_
      rintro e w3 ⟨n3, rfl, h3, hb3⟩
      have H3 := Lib.hid h3
      clear t0 t1 t2 t3 t4 tl
      clear h3
      have HB3 := Aside0.mk (bthen HB2.out hb3)
      have HX3 := Aside0.mk (blk_below HX2.out hb3)
      clear HB2 HX2 hb3
      by_cases hz : n3 = 0
      · subst hz
        have t0 : (w3).cell? ⟨w.heap.size, 0, none⟩ = some (.string t.nm) := by rw [blk_cell HX3.out]; rfl
        have t1 : (w3).cell? ⟨w.heap.size, 1, none⟩ = some (.slice A1 t.cols.length c1) := by rw [blk_cell HX3.out]; rfl
        have t2 : (w3).cell? ⟨w.heap.size, 2, none⟩ = some (.slice A2 t.key.length c2) := by rw [blk_cell HX3.out]; rfl
        have t3 : (w3).cell? ⟨w.heap.size, 3, none⟩ = some (.slice A3 t.fors.length c3) := by rw [blk_cell HX3.out]; rfl
        have t4 : (w3).cell? ⟨w.heap.size, 4, none⟩ = some (.slice A4 t.chks.length c4) := by rw [blk_cell HX3.out]; rfl
        have tl := World.block_lt_of_cell? _ _ t1
        go_wp2_with fail
        refine (q123 t A1 A2 A3 A4 c1 c2 c3 c4 _ (HT.out.below HB3.out) HI.out HC.out).mono ?_
        rintro e w4 ⟨n4, rfl, hb4⟩
        have HB4 := Aside0.mk (bthen HB3.out hb4)
        clear t0 t1 t2 t3 t4 tl HB3 HX3 hb4
        go_wp2
        go_ret
        exact ky_mk rfl (fun _ => by have := H3.out; simpa using this) HB4.out
      · have hz1 : (n3 == 0) = false := by simp [hz]
        have HZ := Lib.hid hz
        clear hz
        go_wp2
        go_ret
        exact ky_mk rfl (fun h => absurd h HZ.out) HB3.out
    · have hz1 : (n2 == 0) = false := by simp [hz]
      have HZ := Lib.hid hz
      clear hz
      go_wp2
      go_ret
      exact ky_mk rfl (fun h => absurd h HZ.out) HB2.out
set_option maxHeartbeats 600000 in
theorem q125 (A : Option Addr) (n c : Nat) (l : List Int) (w : World) (hr : (Kd.int .i64).C w A n l) : Calls Tryz.prog 125 #[.slice A n c] w (BoolRes w) := by
  obtain rfl := hr.1
  have hm := hr.2.1
  have HR := Aside0.mk hr
  clear hr
  go_enter Tryz.func125, Tryz.ntmps125
  go_wp2
  go_loopw [3] (fun i wr => ∃ k : Nat, i = .int .i64 k ∧ k ≤ l.length ∧ Aside0 (Below w.heap.size w wr)) (fun i _ => l.length - (intOf i).toNat)
  case atStart => exact ⟨0, rfl, Nat.zero_le _, ⟨Below.refl _ _⟩⟩
  case round =>
    obtain ⟨k, rfl, hk', HB⟩ := hrel
    by_cases h1 : k < l.length
    · have hk1 : (0 : Int) ≤ k := by omega
      have hk2 : (k : Int) < l.length := by omega
      obtain ⟨xa, rfl, x0⟩ := Kd.at_int HR.out k (by omega) (by omega)
      rw [Int.toNat_natCast] at x0
      replace x0 := pw_cell_below HB.out x0
      go_wp2_with fail
      refine (q160 _ _).mono ?_
      rintro e w1 ⟨b1, rfl, hb1⟩
      have HB1 := Aside0.mk (bthen HB.out hb1)
      cases b1 <;> go_wp2
      all_goals first
        | (go_ret; exact bool_mk rfl HB1.out)
        | exact ⟨⟨k + 1, by go_num, h1, HB1⟩, by simp [intOf]; omega⟩
    · go_wp2
      go_ret
      exact bool_mk rfl HB.out
def fewP (l : List S58) (n : Int) : Prop := (l.length : Int) ≤ n ∧ ∀ x ∈ l, x.f0.length ≤ 60
def FewRes (l : List S58) (n : Int) (w : World) (e : Ending) (w' : World) : Prop := ∃ r : Bool, e = .returned (.bool r) ∧ (r = true → fewP l n) ∧ Below w.heap.size w w'
set_option maxHeartbeats 600000 in
theorem q47 (A : Option Addr) (n c : Nat) (l : List S58) (m : Int) (w : World) (hr : k58.C w A n l) : Calls Tryz.prog 47 #[.slice A n c, .int .i64 m] w (FewRes l m w) := by
  obtain rfl := hr.1
  have hm := hr.2.1
  have HR := Aside0.mk hr
  clear hr
  go_enter Tryz.func47, Tryz.ntmps47
  by_cases hz : m < l.length
  · go_wp2
    go_ret
    exact ⟨false, rfl, (fun h => by cases h), Below.refl _ _⟩
  go_wp2
  have HZ := Lib.hid hz
  clear hz
  go_loopw [5] (fun i wr => ∃ k : Nat, i = .int .i64 k ∧ k ≤ l.length ∧ Aside0 (Below w.heap.size w wr) ∧ Aside0 (∀ x ∈ l.take k, x.f0.length ≤ 60)) (fun i _ => l.length - (intOf i).toNat)
  case atStart => exact ⟨0, rfl, Nat.zero_le _, ⟨Below.refl _ _⟩, ⟨fun _ h => by simp at h⟩⟩
  case round =>
    obtain ⟨k, rfl, hk', HB, HP⟩ := hrel
    by_cases h1 : k < l.length
    · have hk1 : (0 : Int) ≤ k := by omega
      have hk2 : (k : Int) < l.length := by omega
      obtain ⟨xa, A3, c3, rfl, x0, x1, x2, hle, hrow⟩ := at_T58 HR.out k (by omega) (by omega)
      rw [Int.toNat_natCast] at x0
      replace x0 := pw_cell_below HB.out x0
      clear x1 x2 hrow
      by_cases h6 : 60 < (rd_T58 l k).f0.length
      · have h7 : (60 : Int) < (rd_T58 l k).f0.length := by omega
        go_wp2
        all_goals (go_ret; exact ⟨false, rfl, (fun h => by cases h), HB.out⟩)
      · have h7 : ¬ (60 : Int) < (rd_T58 l k).f0.length := by omega
        go_wp2
        exact ⟨⟨k + 1, by go_num, h1, HB, ⟨fun x hx => by
          rw [take_step h1, List.mem_append, List.mem_singleton] at hx
          rcases hx with hx | hx
          · exact HP.out x hx
          · subst hx
            have e : l[k] = rd_T58 l k := by simp [rd_T58, h1]
            rw [e]; omega⟩⟩, by simp [intOf]; omega⟩
    · go_wp2
      go_ret
      exact ⟨true, rfl, (fun _ => ⟨by have := HZ.out; omega, fun x hx => HP.out x (by rw [List.take_of_length_le (by omega)]; exact hx)⟩), HB.out⟩
end Go.Proofs.YtiamihkfphmohaaGreatDoor.PA

namespace Go.Proofs.YtiamihkfphmohaaGreatDoor.PA
open Go.RowKit Go.Proofs.YtiamihkfphmohaaGreatDoorW.PrintWords Go.Proofs.YtiamihkfphmohaaGreatDoorW.PrintLast Go.Proofs.YtiamihkfphmohaaGreatDoorW.PrintMore

open Go.Lib (OthersKept)
theorem Pcs.grown {W W' : World} {base mb n x : Nat} {g : List UInt8 → List S50} {o : Obj} (h : Pcs W base mb n g) (hg : W.grownBy W' (some x)) (hx : W.heap[x]? = some o) (ho : ∀ cs, o ≠ .cells cs 115 (0, 0)) (hne : mb ≠ x) : Pcs W' base mb n g := by
  obtain ⟨h1, f, h2, h3, h4, h5⟩ := h
  exact ⟨h1, f, h2.kept hg (by simpa using hne), h3, fun s v hv => ⟨(h4 s v hv).1, Kd.R_grown1 (h4 s v hv).2 rfl hg (R_apart (h4 s v hv).2 hx ho)⟩, h5⟩
/-- The instants at which two of some periods hold. -/
def CrowdOf (ps sp : List S50) : Prop := SpanOK sp ∧ (∀ t, sc sp t = (decide (0 ≤ t ∧ t < 1099511627776) && decide (2 ≤ cnt ps t))) ∧ sp.length ≤ 2 * ps.length + 1
theorem crowd_unique {ps a b : List S50} (ha : CrowdOf ps a) (hb : CrowdOf ps b) : a = b := span_unique ha.1 hb.1 (fun t => by rw [ha.2.1, hb.2.1])
/-- The crowds by keys: what the map of block mo holds, at the keys of dm. -/
def Crd (W : World) (base mo n : Nat) (dm : List UInt8 → Bool) (g : List UInt8 → List S50) : Prop :=
  base ≤ mo ∧ ∃ f, VMap W mo n f ∧ (∀ s, (f s).isSome = dm s) ∧ ∀ s v, f s = some v → ∃ sp, CrowdOf (g s) sp ∧ k50.R 50 W base (fun _ => True) v sp
theorem Crd.below {W W' : World} {base mo n : Nat} {dm : List UInt8 → Bool} {g : List UInt8 → List S50} (h : Crd W base mo n dm g) (hb : Below W.heap.size W W') : Crd W' base mo n dm g := by
  obtain ⟨h1, f, h2, h3, h4⟩ := h
  exact ⟨h1, f, h2.below hb, h3, fun s v hv => by obtain ⟨sp, h5, h6⟩ := h4 s v hv; exact ⟨sp, h5, Kd.R_below h6 hb⟩⟩
theorem Crd.grown {W W' : World} {base mo n x : Nat} {dm : List UInt8 → Bool} {g : List UInt8 → List S50} {o : Obj} (h : Crd W base mo n dm g) (hg : W.grownBy W' (some x)) (hx : W.heap[x]? = some o) (ho : ∀ cs, o ≠ .cells cs 50 (0, 0)) (hne : mo ≠ x) : Crd W' base mo n dm g := by
  obtain ⟨h1, f, h2, h3, h4⟩ := h
  exact ⟨h1, f, h2.kept hg (by simpa using hne), h3, fun s v hv => by obtain ⟨sp, h5, h6⟩ := h4 s v hv; exact ⟨sp, h5, Kd.R_grown1 h6 rfl hg (R_apart h6 hx ho)⟩⟩
theorem Crd.blk {W : World} {base mo n : Nat} {dm : List UInt8 → Bool} {g : List UInt8 → List S50} (h : Crd W base mo n dm g) : ∃ es clock, W.heap[mo]? = some (.map es clock) := by
  obtain ⟨_, f, ⟨D, ⟨es, clock, h1, _⟩, _⟩, _⟩ := h
  exact ⟨es, clock, h1⟩
theorem atl_len (n : Int) : ∀ (l : List S152) (o : List S50), (atl n l o).length ≤ o.length + l.length
  | [], o => by simp [atl]
  | s :: l, o => by
    have h := atl_len n l (if n ≤ s.f1 then jn o ⟨s.f0, nextF l⟩ else o)
    have hj : (jn o ⟨s.f0, nextF l⟩).length ≤ o.length + 1 := by
      rcases snoc_cases o with rfl | ⟨m, q, rfl⟩
      · simp [jn_nil]
      · rw [jn_snoc]; split <;> simp
    rw [atl, List.length_cons]
    split at h <;> rename_i hc
    · rw [if_pos hc]; omega
    · rw [if_neg hc]; omega
theorem Crd.put {W : World} {base mo n : Nat} {dm : List UInt8 → Bool} {g : List UInt8 → List S50} (h : Crd W base mo n dm g) (hn : n < maxLen) (s : ByteArray) (hs : s.size ≤ maxLen) (v : Value) (sp : List S50) (hsp : CrowdOf (g s.data.toList) sp) (hv : k50.R 50 W base (fun _ => True) v sp) :
    ∃ W', (Instr.mapUpdate 84 (.map (some mo)) (.string s) v).run Tryz.prog W = .ok () W' ∧ Crd W' base mo (n + 1) (fun k => dm k || decide (k = s.data.toList)) g ∧ W.grownBy W' (some mo) := by
  obtain ⟨h1, f, h2, h3, h4⟩ := h
  obtain ⟨W', hrun, hV, hg⟩ := h2.update Tryz.underlying84 hn s hs v
  obtain ⟨D, ⟨es, clock, hmo, _⟩, _⟩ := h2
  have hx : ∀ cs, (Obj.map es clock) ≠ .cells cs 50 (0, 0) := by intro cs e; cases e
  refine ⟨W', hrun, ⟨h1, _, hV, fun k => ?_, fun k u hu => ?_⟩, hg⟩
  · unfold fset
    split
    · rename_i hk
      simp [hk]
    · rename_i hk
      simp [h3, hk]
  · unfold fset at hu
    split at hu
    · rename_i hk
      rw [Option.some.injEq] at hu
      subst hu
      subst hk
      exact ⟨sp, hsp, Kd.R_grown1 hv rfl hg (R_apart hv hmo hx)⟩
    · obtain ⟨sp, h5, h6⟩ := h4 k u hu
      exact ⟨sp, h5, Kd.R_grown1 h6 rfl hg (R_apart h6 hmo hx)⟩
def perS (cols : List Int) (l : List S58) (s : List UInt8) : List S50 := (l.filter (fun x => decide (encK (pick x.f0 cols) = s))).map S58.f1
theorem perS_step {cols : List Int} {l : List S58} {k : Nat} (h : k < l.length) : perS cols (l.take (k + 1)) = gadd (perS cols (l.take k)) (encK (pick (rd_T58 l k).f0 cols)) (rd_T58 l k).f1 := by
  have e : l[k] = rd_T58 l k := by simp [rd_T58, h]
  funext s
  rw [take_step h, e]
  unfold perS gadd
  rw [List.filter_append, List.map_append]
  by_cases hs : s = encK (pick (rd_T58 l k).f0 cols)
  · rw [if_pos hs, hs]
    simp
  · rw [if_neg hs, List.filter_cons, if_neg (by simpa using fun e2 => hs e2.symm)]
    simp
theorem perS_len (cols : List Int) (l : List S58) (s : List UInt8) : (perS cols l s).length ≤ l.length := by
  unfold perS
  rw [List.length_map]
  exact List.length_filter_le _ _
theorem pcs_nil (w : World) (base : Nat) (hb : base ≤ w.heap.size) (g : List UInt8 → List S50) (hg : ∀ s, g s = []) : Pcs (w.alloc (.map #[] 0)) base w.heap.size 0 g :=
  ⟨hb, _, VMap.made w, fun s _ => hg s, fun s v h => (by cases h), fun s t v u h => (by cases h)⟩
theorem others_blk' {mb g t : Nat} {cs : Array Value} {w w' : World} (h : OthersKept 115 (some mb) w w') (hg : w.heap[g]? = some (.cells cs t (0, 0))) (hne : g ≠ mb) (ht : t ≠ 115) : w'.heap[g]? = some (.cells cs t (0, 0)) :=
  h g _ hg (by simpa using hne) (by intro c fz e; injection e with _ e2; exact ht e2)
/-- The facts that the walks of keys are given: their keys' numbers are int64, their texts fit. -/
def KeysIn (cols : List Int) (l : List S58) : Prop := ∀ x ∈ l, (∀ v ∈ pick x.f0 cols, InR v) ∧ (encK (pick x.f0 cols)).length ≤ 70368744177664
def CrowdsRes (cols : List Int) (l : List S58) (w : World) (e : Ending) (w' : World) : Prop :=
  ∃ mo n, e = .returned (.map (some mo)) ∧ n ≤ l.length ∧ Crd w' w.heap.size mo n (fun s => decide (perS cols l s ≠ [])) (perS cols l) ∧ Below w.heap.size w w'
set_option maxHeartbeats 600000 in
set_option maxRecDepth 100000 in
theorem c109 (nm : ByteArray) (vc vf vk : Value) (A2 : Option Addr) (n2 c2 : Nat) (cols : List Int) (A : Option Addr) (n c : Nat) (l : List S58) (w : World)
    (hc : (Kd.int .i64).C w A2 n2 cols) (hcl : cols.length ≤ 1000000) (hr : k58.C w A n l) (hl : l.length ≤ 400000) (hT : TabOK w) (hK : KeysIn cols l) :
    Calls Tryz.prog 50 #[.agg #[.string nm, vc, .slice A2 n2 c2, vf, vk], .slice A n c] w (CrowdsRes cols l w) := by
  obtain rfl := hr.1
  obtain rfl := hc.1
  have HR := Aside0.mk hr
  have HC := Aside0.mk hc
  have HT := Aside0.mk hT
  have HK := Lib.hid hK
  clear hr hc hT hK
  go_enter Tryz.func50, Tryz.ntmps50
  have hmm := @run_makeMap Tryz.prog
  go_wp2
  have b0 : Below w.heap.size w (((w.alloc (.cells #[.string nm, vc, .slice A2 cols.length c2, vf, vk] 27)).alloc (.map #[] 0)).alloc (.cells #[.map (some (w.heap.size + 1))] 112)) := below_alloc (below_alloc (below_alloc (Below.refl _ _) _) _) _
  have t0 : (((w.alloc (.cells #[.string nm, vc, .slice A2 cols.length c2, vf, vk] 27)).alloc (.map #[] 0)).alloc (.cells #[.map (some (w.heap.size + 1))] 112)).heap[w.heap.size]? = some (.cells #[.string nm, vc, .slice A2 cols.length c2, vf, vk] 27 (0, 0)) := blk_alloc (blk_alloc (blk_new _ _) _) _
  have p0 : (((w.alloc (.cells #[.string nm, vc, .slice A2 cols.length c2, vf, vk] 27)).alloc (.map #[] 0)).alloc (.cells #[.map (some (w.heap.size + 1))] 112)).heap[w.heap.size + 2]? = some (.cells #[.map (some (w.heap.size + 1))] 112 (0, 0)) := hd_alloc_eq (by simp)
  have q0 : Pcs (((w.alloc (.cells #[.string nm, vc, .slice A2 cols.length c2, vf, vk] 27)).alloc (.map #[] 0)).alloc (.cells #[.map (some (w.heap.size + 1))] 112)) w.heap.size (w.heap.size + 1) 0 (perS cols (l.take 0)) := by
    have h := pcs_nil (w.alloc (.cells #[.string nm, vc, .slice A2 cols.length c2, vf, vk] 27)) w.heap.size (by simp) (perS cols (l.take 0)) (fun s => by simp [perS])
    rw [show (w.alloc (.cells #[.string nm, vc, .slice A2 cols.length c2, vf, vk] 27)).heap.size = w.heap.size + 1 from by simp] at h
    exact h.below (below_alloc (Below.refl _ _) _)
  have hmo : ∃ mb, mb = w.heap.size + 1 := ⟨_, rfl⟩
  obtain ⟨mb, hmb⟩ := hmo
  have hpo : ∃ pb, pb = w.heap.size + 2 := ⟨_, rfl⟩
  obtain ⟨pb, hpb⟩ := hpo
  rw [← hmb] at b0 t0 p0 q0 ⊢
  rw [← hpb] at p0
  rw [show mb + 1 = pb from by omega]
  have HMB := Lib.hid hmb
  have HPB := Lib.hid hpb
  clear hmb hpb
  have B0 := Aside0.mk b0
  have T0 := Aside0.mk t0
  have P0 := Aside0.mk p0
  have Q0 := Aside0.mk q0
  clear b0 t0 p0 q0
  generalize ((w.alloc (.cells #[.string nm, vc, .slice A2 cols.length c2, vf, vk] 27)).alloc (.map #[] 0)).alloc (.cells #[.map (some mb)] 112) = W0 at *
  go_loopw [8, 16] (fun xb i wr => ∃ k : Nat, i = .int .i64 k ∧ k ≤ l.length ∧ Aside0 (Below w.heap.size w wr) ∧ Aside0 (wr.heap[w.heap.size]? = some (.cells #[.string nm, vc, .slice A2 cols.length c2, vf, vk] 27 (0, 0))) ∧ Aside0 (wr.heap[pb]? = some (.cells #[.map (some mb)] 112 (0, 0))) ∧ Aside0 (Pcs wr w.heap.size mb k (perS cols (l.take k)))) (fun _ i _ => l.length - (intOf i).toNat)
  case atStart => exact ⟨0, rfl, Nat.zero_le _, B0, T0, P0, Q0⟩
  case round =>
    clear B0 T0 P0 Q0
    obtain ⟨k, rfl, hk', HB, HT1, HP1, HQ⟩ := hrel
    by_cases h1 : k < l.length
    · have hst := Lib.hid (perS_step (cols := cols) h1)
      have hkx := Lib.hid (HK.out (rd_T58 l k) (by simp [rd_T58, h1]))
      obtain ⟨xa, A3, c3, rfl, x0, x1, x2, hle, hrow⟩ := at_T58 HR.out k (by omega) (by omega)
      rw [Int.toNat_natCast] at x0 x1 x2
      replace x0 := pw_cell_below HB.out x0
      replace x1 := pw_cell_below HB.out x1
      replace x2 := pw_cell_below HB.out x2
      have xbl := World.block_lt_of_cell? _ _ x0
      have HW := Aside0.mk hrow
      clear hrow
      have hk1 : (0 : Int) ≤ k := by omega
      have hk2 : (k : Int) < l.length := by omega
      have e169 : ∀ args w, (callFunc 85 args).run Tryz.prog w = .ok (.enter 85 args) w := enters_of Tryz.func85 (by kernel_rfl) rfl
      go_wp2_with fail
      refine (c169 nm vc vf vk A2 _ c2 cols w.heap.size pb mb w.heap.size k (perS cols (l.take k)) A3 _ c3 (rd_T58 l k).f0 (rd_T58 l k).f1 w _ (Kd.C_below HW.out (below_alloc HB.out _)) (Kd.C_below HC.out (below_alloc HB.out _)) hcl (blk_alloc HT1.out _) (blk_alloc HP1.out _) (tab_below HT.out (below_alloc HB.out _)) hkx.out.1 hkx.out.2 (HQ.out.below (below_alloc (Below.refl _ _) _)) (below_alloc HB.out _) (by omega) (fun s => by have := perS_len cols (l.take k) s; rw [List.length_take] at this; omega)).mono ?_
      rintro e w1 ⟨rfl, hq, hb, ho⟩
      have HB2 := Aside0.mk hb
      have HT2 := Aside0.mk (others_blk' ho (blk_alloc HT1.out _) (by have := HMB.out; omega) (by decide))
      have HP2 := Aside0.mk (others_blk' ho (blk_alloc HP1.out _) (by have := HMB.out; have := HPB.out; omega) (by decide))
      have HQ2 := Aside0.mk hq
      clear hq hb ho HB HT1 HP1 HQ x0 x1 x2 xbl
      go_wp2
      exact ⟨⟨k + 1, by go_num, h1, HB2, HT2, HP2, ⟨by rw [hst.out]; exact HQ2.out⟩⟩, by simp [intOf]; omega⟩
    · rw [List.take_of_length_le (by omega)] at HQ
      have p0 : wr.cell? ⟨pb, 0, none⟩ = some (.map (some mb)) := by rw [blk_cell HP1.out]; rfl
      have hmm := @run_makeMap Tryz.prog
      have hQ2 := HQ.out.below (below_alloc (Below.refl wr.heap.size wr) (.map #[] 0))
      obtain ⟨hbm, f, hV, hf0, hf1, hfd⟩ := hQ2
      obtain ⟨W5, cnt, hrg, hR5, hcn5, hg5, hs5⟩ := hV.range Tryz.underlying112
      have p0b := World.block_lt_of_cell? _ _ p0
      have p1 := blk_below (blk_alloc HP1.out (.map #[] 0)) (Below.refl _ _)
      go_wp2
      have hmo : ∃ mo, mo = wr.heap.size := ⟨_, rfl⟩
      obtain ⟨mo, hmo⟩ := hmo
      have hro : ∃ r, r = wr.heap.size + 1 := ⟨_, rfl⟩
      obtain ⟨r, hro⟩ := hro
      have hs6 : (wr.alloc (.map #[] 0)).heap.size = r := by rw [hro]; simp
      rw [hs6] at hR5 hs5
      rw [← hro, ← hmo]
      have hwr := HB.out.size
      have B0 := Aside0.mk (pw_below_grown (below_alloc HB.out (.map #[] 0)) none (by simp; omega) hg5 (by intro k hk; cases hk))
      have b56 := pw_below_grown (Below.refl (wr.alloc (.map #[] 0)).heap.size (wr.alloc (.map #[] 0))) none (Nat.le_refl _) hg5 (by intro k hk; cases hk)
      have F0 := Aside0.mk (show ∀ s v, f s = some v → 0 < (perS cols l s).length ∧ k115.R 115 W5 w.heap.size (fun _ => True) v ((perS cols l s).map cn1) from fun s v hv => ⟨(hf1 s v hv).1, Kd.R_below (hf1 s v hv).2 b56⟩)
      have C0 := Aside0.mk (show Crd W5 w.heap.size mo 0 (fun s => (f s).isSome && !(f s).isSome) (perS cols l) from by
        have h : Crd (wr.alloc (.map #[] 0)) w.heap.size mo 0 (fun s => (f s).isSome && !(f s).isSome) (perS cols l) := by
          rw [hmo]
          exact ⟨hwr, _, VMap.made wr, fun s => by show false = ((f s).isSome && !(f s).isSome); cases (f s).isSome <;> rfl, fun s v hv => by cases hv⟩
        exact h.below b56)
      have R0 := Aside0.mk hR5
      have HMO := Lib.hid hmo
      have HRO := Lib.hid hro
      have HF0 := Lib.hid hf0
      have hmbl := hV.lt
      have hmbm : mb ≠ mo := by
        intro e
        obtain ⟨_, f2, hV2, _⟩ := HQ.out
        have := hV2.lt
        omega
      have HWR := Lib.hid hwr
      clear hmo hro hs6 hR5 hg5 hs5 hV hf1 hfd hrg b56 p0 p0b p1 hmm HQ HP1 HT1 HB hf0
      go_loopw [10, 11] (fun ks cs wl => ∃ (lf : List UInt8 → Bool) (ct n : Nat), n + ct ≤ l.length ∧ Aside0 (VRange wl mb r k f lf ct) ∧ Aside0 (Below w.heap.size w wl) ∧ Aside0 (Crd wl w.heap.size mo n (fun s => (f s).isSome && !lf s) (perS cols l)) ∧ Aside0 (∀ s v, f s = some v → 0 < (perS cols l s).length ∧ k115.R 115 wl w.heap.size (fun _ => True) v ((perS cols l s).map cn1))) (fun _ _ wl => wl.rangeLeft mb r)
      case atStart => exact ⟨_, cnt, 0, by omega, R0, B0, C0, F0⟩
      case round =>
        clear R0 B0 C0 F0 hwr
        obtain ⟨lf, ct, n, hnc, HV, HB, HC2, HF⟩ := hrel
        have hleft := Lib.hid HV.out.left_eq
        rcases HV.out.next 0 with ⟨h0, hl0, hrun⟩ | ⟨s, v, W6, ct2, hsz, hlf, hfs, hrun, hrg2, hlt, hgr, hsz6, hen⟩
        · go_wp2
          go_ret
          refine ⟨mo, n, rfl, by omega, ?_, HB.out⟩
          have he : (fun s => (f s).isSome && !lf s) = fun s => decide (perS cols l s ≠ []) := by
            funext s
            rw [hl0 s]
            cases hf : f s with
            | none => rw [HF0.out s hf]; rfl
            | some v =>
              have := (HF.out s v hf).1
              have hne : perS cols l s ≠ [] := fun e => by rw [e] at this; simp at this
              simp [hne]
          rw [← he]
          exact HC2.out
        · obtain ⟨im, is, ia, ic, hit⟩ := HV.out.iter
          have hrm := HV.out.ne
          have hmr : mo ≠ r := by have := HMO.out; have := HRO.out; omega
          have hwl := HB.out.size
          have HB6 := Aside0.mk (pw_below_grown HB.out (some r) hwl hgr (by intro k hk; have := Option.some.inj hk; have := HRO.out; have := HWR.out; omega))
          have HC6 := Aside0.mk (HC2.out.grown hgr hit (by intro cs e; cases e) hmr)
          have HF6 := Aside0.mk (show ∀ s v, f s = some v → 0 < (perS cols l s).length ∧ k115.R 115 W6 w.heap.size (fun _ => True) v ((perS cols l s).map cn1) from fun s v hv => ⟨(HF.out s v hv).1, Kd.R_grown1 (HF.out s v hv).2 rfl hgr (R_apart (HF.out s v hv).2 hit (by intro cs e; cases e))⟩)
          have HV6 := Aside0.mk hrg2
          obtain ⟨A7, c7, hv7⟩ := Kd.R_slice (HF6.out s.data.toList v hfs).2
          rw [List.length_map] at hv7
          have hR7 : k115.C W6 A7 (perS cols l s.data.toList).length ((perS cols l s.data.toList).map cn1) := by
            have h := (HF6.out s.data.toList v hfs).2
            rw [hv7] at h
            have h2 := (Kd.R_reads' h).2.2
            rw [List.length_map] at h2
            exact h2
          subst hv7
          have HF7 := Lib.hid hfs
          have hpl := perS_len cols l s.data.toList
          have hml : ((perS cols l s.data.toList).map cn1).length ≤ 400000 := by rw [List.length_map]; omega
          have hm1 : ∀ x ∈ (perS cols l s.data.toList).map cn1, x.f1 = 1 := by
            intro x hx
            obtain ⟨y, _, rfl⟩ := List.mem_map.1 hx
            rfl
          have hm0 : ((perS cols l s.data.toList).map cn1).map S115.f0 = perS cols l s.data.toList := by
            rw [List.map_map]
            exact List.map_id _
          clear HV HB HC2 HF hgr hit hrg2 hfs
          go_wp2_with fail
          refine (c134 _ _ _ ((perS cols l s.data.toList).map cn1) W6 hR7 hml hm1).mono ?_
          rintro e w1 ⟨v8, st, rfl, hst1, hst2, hstl, hR8, hb8⟩
          rw [hm0] at hst2
          obtain ⟨A8, c8, rfl⟩ := Kd.R_slice hR8
          go_wp2_with fail
          refine (c170 _ _ _ st 2 w1 (Kd.R_reads' hR8).2.2 (by rw [List.length_map] at hstl; omega)).mono ?_
          rintro e w2 ⟨v9, rfl, hR9, hb9⟩
          have hb89 := bthen hb8 hb9
          obtain ⟨hsp1, hsp2⟩ := atl_span (n := 2) hst1
          have hcr : CrowdOf (perS cols l s.data.toList) (atl 2 st []) := by
            refine ⟨hsp1, fun t => ?_, ?_⟩
            · rw [hsp2]
              by_cases ht : 0 ≤ t ∧ t < 1099511627776
              · rw [decide_eq_true ht, hst2 t ht.1 ht.2]
              · rw [decide_eq_false ht, Bool.false_and, Bool.false_and]
            · have h := atl_len 2 st []
              rw [List.length_map] at hstl
              simp only [List.length_nil, Nat.zero_add] at h
              exact Nat.le_trans h hstl
          have hs8 := HB6.out.size
          obtain ⟨W9, hup, hC9, hg9⟩ := (HC6.out.below hb89).put (by unfold maxLen; omega) s hsz v9 _ hcr (Kd.R_lower hR9 (Nat.le_trans hs8 hb8.size))
          obtain ⟨mes, mcl, hmob⟩ := (HC6.out.below hb89).blk
          have HV9 := Aside0.mk ((HV6.out.kept (grown_of_below hb89 none) (by simp) (by simp)).kept hg9 (by simpa using hmbm) (by simpa using hmr.symm))
          have HB9 := Aside0.mk (pw_below_grown (below_step HB6.out hb89) (some mo) (Nat.le_trans hs8 hb89.size) hg9 (by intro k hk; have := Option.some.inj hk; have := HMO.out; have := HWR.out; omega))
          have HF9 := Aside0.mk (show ∀ s v, f s = some v → 0 < (perS cols l s).length ∧ k115.R 115 W9 w.heap.size (fun _ => True) v ((perS cols l s).map cn1) from fun s v hv => ⟨(HF6.out s v hv).1, Kd.R_grown1 (Kd.R_below (HF6.out s v hv).2 hb89) rfl hg9 (R_apart (Kd.R_below (HF6.out s v hv).2 hb89) hmob (by intro cs e; cases e))⟩)
          have hdm : (fun k => ((f k).isSome && !lf k) || decide (k = s.data.toList)) = fun k => (f k).isSome && !(lf k && !decide (k = s.data.toList)) := by
            funext k
            by_cases hk : k = s.data.toList
            · rw [decide_eq_true hk, hk, HF7.out]
              simp
            · rw [decide_eq_false hk]
              simp
          rw [hdm] at hC9
          have HC9 := Aside0.mk hC9
          clear hC9 hdm hg9 hmob HV6 HB6 HC6 HF6 hb8 hb9 hb89 hR9 hR8 hR7 hst1 hst2 hsp1 hsp2 hcr hs8
          go_wp2
          exact ⟨⟨_, ct2, n + 1, by omega, HV9, HB9, HC9, HF9⟩, by rw [HV9.out.left_eq, hleft.out]; exact hlt⟩
end Go.Proofs.YtiamihkfphmohaaGreatDoor.PA

namespace Go.Proofs.YtiamihkfphmohaaGreatDoor.PA
open Go.RowKit Go.Proofs.YtiamihkfphmohaaGreatDoorW.PrintWords Go.Proofs.YtiamihkfphmohaaGreatDoorW.PrintLast Go.Proofs.YtiamihkfphmohaaGreatDoorW.PrintMore

/-- No instant has two periods of one key. -/
def NoCrowd (ps : List S50) : Prop := ∀ t, 0 ≤ t → t < 1099511627776 → ¬ 2 ≤ cnt ps t
def HoldsP (cols : List Int) (l : List S58) : Prop := ∀ s, NoCrowd (perS cols l s)
theorem nocrowd_nil : NoCrowd [] := fun t _ _ h => by simp [cnt] at h
theorem crowd_nil {ps sp : List S50} (h : CrowdOf ps sp) : NoCrowd ps ↔ sp.length = 0 := by
  constructor
  · intro hn
    cases sp with
    | nil => rfl
    | cons p sp =>
      obtain ⟨h1, h2, h3⟩ := h.1.head
      have h4 := h.2.1 p.f0
      rw [sc_cons, pc_iff.2 ⟨⟨h1, h2, h3⟩, Int.le_refl _, h2⟩, Bool.true_or, decide_eq_true (by omega), Bool.true_and] at h4
      exact absurd (of_decide_eq_true h4.symm) (hn p.f0 h1 (by omega))
  · intro h0 t ht1 ht2 hc
    have h4 := h.2.1 t
    rw [List.eq_nil_of_length_eq_zero h0, sc_nil, decide_eq_true (⟨ht1, ht2⟩ : 0 ≤ t ∧ t < 1099511627776), decide_eq_true hc] at h4
    cases h4
def HoldsRes (cols : List Int) (l : List S58) (w : World) (e : Ending) (w' : World) : Prop := ∃ b, e = .returned (.bool b) ∧ (b = true ↔ HoldsP cols l) ∧ Below w.heap.size w w'
set_option maxHeartbeats 1000000 in
set_option maxRecDepth 100000 in
theorem c30 (nm : ByteArray) (vc vf vk : Value) (A2 : Option Addr) (n2 c2 : Nat) (cols : List Int) (A : Option Addr) (n c : Nat) (l : List S58) (w : World)
    (hc : (Kd.int .i64).C w A2 n2 cols) (hcl : cols.length ≤ 1000000) (hr : k58.C w A n l) (hl : l.length ≤ 400000) (hT : TabOK w) (hK : KeysIn cols l) :
    Calls Tryz.prog 15 #[.agg #[.string nm, vc, .slice A2 n2 c2, vf, vk], .slice A n c] w (HoldsRes cols l w) := by
  obtain rfl := hr.1
  obtain rfl := hc.1
  have HR := Aside0.mk hr
  have HC := Aside0.mk hc
  have HT := Aside0.mk hT
  clear hr hc hT
  have hbx := below_alloc (Below.refl w.heap.size w) (.cells #[.string nm, vc, .slice A2 cols.length c2, vf, vk] 27)
  have HBX := Aside0.mk hbx
  clear hbx
  go_enter Tryz.func15, Tryz.ntmps15
  go_wp2_with fail
  refine (c109 nm vc vf vk A2 _ c2 cols A _ c l _ (Kd.C_below HC.out HBX.out) hcl (Kd.C_below HR.out HBX.out) hl (tab_below HT.out HBX.out) hK).mono ?_
  rintro e w1 ⟨mo, N, rfl, hN, ⟨hbm, f, hV, hdm, hcr⟩, hb1⟩
  obtain ⟨W5, cnt0, hrg, hR5, _, hg5, hs5⟩ := hV.range Tryz.underlying84
  have b15 := pw_below_grown (Below.refl w1.heap.size w1) none (Nat.le_refl _) hg5 (by intro k hk; cases hk)
  have B0 := Aside0.mk (bthen (bel1 hb1) b15)
  have F0 := Aside0.mk (show ∀ s v, f s = some v → ∃ sp, CrowdOf (perS cols l s) sp ∧ k50.R 50 W5 (w.alloc (.cells #[.string nm, vc, .slice A2 cols.length c2, vf, vk] 27)).heap.size (fun _ => True) v sp from fun s v hv => by obtain ⟨sp, h1, h2⟩ := hcr s v hv; exact ⟨sp, h1, Kd.R_below h2 b15⟩)
  have R0 := Aside0.mk hR5
  have HDM := Lib.hid hdm
  have hrl : w.heap.size ≤ w1.heap.size := (bel1 hb1).size
  generalize (w.alloc (.cells #[.string nm, vc, .slice A2 cols.length c2, vf, vk] 27)).heap.size = bs at *
  clear hb1 hbm hV hdm hcr hR5 hg5 b15 HBX
  go_wp2
  have hro : ∃ r, r = w1.heap.size := ⟨_, rfl⟩
  obtain ⟨r, hro⟩ := hro
  rw [← hro] at R0 ⊢
  have HRO := Lib.hid hro
  clear hro hrg
  go_loopw [6] (fun pv wl => ∃ (lf : List UInt8 → Bool) (ct : Nat), Aside0 (VRange wl mo r N f lf ct) ∧ Aside0 (Below w.heap.size w wl) ∧ Aside0 (∀ s v, f s = some v → ∃ sp, CrowdOf (perS cols l s) sp ∧ k50.R 50 wl bs (fun _ => True) v sp) ∧ Aside0 (∀ s, (f s).isSome = true → lf s = false → NoCrowd (perS cols l s))) (fun _ wl => wl.rangeLeft mo r)
  case atStart => exact ⟨_, cnt0, R0, B0, F0, ⟨fun s h1 h2 => by rw [h1] at h2; cases h2⟩⟩
  case round =>
    clear R0 B0 F0
    obtain ⟨lf, ct, HV, HB, HF, HN⟩ := hrel
    have hleft := Lib.hid HV.out.left_eq
    rcases HV.out.next 0 with ⟨h0, hl0, hrun⟩ | ⟨s, v, W6, ct2, hsz, hlf, hfs, hrun, hrg2, hlt, hgr, hsz6, hen⟩
    · go_wp2
      go_ret
      refine ⟨true, rfl, ⟨fun _ s => ?_, fun _ => rfl⟩, HB.out⟩
      by_cases hs : (f s).isSome = true
      · exact HN.out s hs (hl0 s)
      · have h1 := HDM.out s
        have h2 : perS cols l s = [] := by
          by_cases h3 : perS cols l s = []
          · exact h3
          · rw [decide_eq_true h3] at h1
            exact absurd h1 hs
        rw [h2]
        exact nocrowd_nil
    · obtain ⟨im, is, ia, ic, hit⟩ := HV.out.iter
      obtain ⟨sp, hcr, hR⟩ := HF.out s.data.toList v hfs
      have hR6 := Kd.R_grown1 hR rfl hgr (R_apart hR hit (by intro cs e; cases e))
      have HB6 := Aside0.mk (pw_below_grown HB.out (some r) HB.out.size hgr (by intro k hk; have := Option.some.inj hk; have := HRO.out; omega))
      have HF6 := Aside0.mk (show ∀ s v, f s = some v → ∃ sp, CrowdOf (perS cols l s) sp ∧ k50.R 50 W6 bs (fun _ => True) v sp from fun s v hv => by obtain ⟨sp, h1, h2⟩ := HF.out s v hv; exact ⟨sp, h1, Kd.R_grown1 h2 rfl hgr (R_apart h2 hit (by intro cs e; cases e))⟩)
      have HV6 := Aside0.mk hrg2
      have hcn := crowd_nil hcr
      obtain ⟨A7, c7, rfl⟩ := Kd.R_slice hR6
      have HCN := Lib.hid hcn
      have HFS := Lib.hid hfs
      clear HV HB HF hgr hit hrg2 hR hR6 hcr hcn hfs
      by_cases hz : sp.length = 0
      · have hzi : ¬ (0 : Int) < sp.length := by omega
        go_wp2
        refine ⟨⟨_, ct2, HV6, HB6, HF6, ⟨fun k hk1 hk2 => ?_⟩⟩, by rw [HV6.out.left_eq, hleft.out]; exact hlt⟩
        by_cases hk : k = s.data.toList
        · rw [hk]
          exact HCN.out.2 hz
        · rw [decide_eq_false hk] at hk2
          exact HN.out k hk1 (by simpa using hk2)
      · have hzi : (0 : Int) < sp.length := by omega
        go_wp2
        go_ret
        exact ⟨false, rfl, ⟨(fun h => by cases h), fun h => absurd (HCN.out.1 (h _)) hz⟩, HB6.out⟩
end Go.Proofs.YtiamihkfphmohaaGreatDoor.PA

namespace Go.Proofs.YtiamihkfphmohaaGreatDoor.PA
open Go.RowKit Go.Proofs.YtiamihkfphmohaaGreatDoorW.PrintWords Go.Proofs.YtiamihkfphmohaaGreatDoorW.PrintLast Go.Proofs.YtiamihkfphmohaaGreatDoorW.PrintMore

theorem N_apart {α : Type} {d : Kd α} {e : Nat} {w : World} {base : Nat} {ok : Nat → Prop} {v : Value} {xs : List α} (h : Kd.N d e w base ok v xs) {k : Nat} {o : Obj} (hk : w.heap[k]? = some o) (ho : ∀ cs, o ≠ .cells cs e (0, 0)) : some k ≠ v.ownBlock := by
  obtain ⟨_, rows, _, h1, _⟩ := h
  exact R_apart h1 hk ho
def withS (cols : List Int) (l : List S58) (key : List S82) : List S58 := l.filter (fun x => req (pick x.f0 cols) key)
theorem withS_step {cols : List Int} {l : List S58} {key : List S82} {k : Nat} (h : k < l.length) : withS cols (l.take (k + 1)) key = withS cols (l.take k) key ++ (if req (pick (rd_T58 l k).f0 cols) key = true then [rd_T58 l k] else []) := by
  have e : l[k] = rd_T58 l k := by simp [rd_T58, h]
  rw [take_step h, withS, List.filter_append, e]
  by_cases hq : req (pick (rd_T58 l k).f0 cols) key = true <;> simp [withS, hq]
def FactsRes (r : List S58) (w : World) (e : Ending) (w' : World) : Prop := ∃ v, e = .returned v ∧ Kd.N k58 58 w' w.heap.size (fun _ => True) v r ∧ Below w.heap.size w w'
set_option maxHeartbeats 1000000 in
set_option maxRecDepth 100000 in
theorem c116 (nm : ByteArray) (vc vf vk : Value) (A2 : Option Addr) (n2 c2 : Nat) (cols : List Int) (A : Option Addr) (n c : Nat) (l : List S58) (A4 : Option Addr) (n4 c4 : Nat) (key : List S82) (w : World)
    (hc : (Kd.int .i64).C w A2 n2 cols) (hcl : cols.length ≤ 1000000) (hr : k58.C w A n l) (hl : l.length ≤ 400000) (hk : k82.C w A4 n4 key) :
    Calls Tryz.prog 60 #[.agg #[.string nm, vc, .slice A2 n2 c2, vf, vk], .slice A n c, .slice A4 n4 c4] w (FactsRes (withS cols l key) w) := by
  obtain rfl := hr.1
  obtain rfl := hc.1
  obtain rfl := hk.1
  have HR := Aside0.mk hr
  have HC := Aside0.mk hc
  have HK := Aside0.mk hk
  clear hr hc hk
  go_enter Tryz.func60, Tryz.ntmps60
  go_wp2
  have t0 : (w.alloc (.cells #[.string nm, vc, .slice A2 cols.length c2, vf, vk] 27)).heap[w.heap.size]? = some (.cells #[.string nm, vc, .slice A2 cols.length c2, vf, vk] 27 (0, 0)) := blk_new _ _
  have T0 := Aside0.mk t0
  have B0 := Aside0.mk (below_alloc (Below.refl w.heap.size w) (.cells #[.string nm, vc, .slice A2 cols.length c2, vf, vk] 27))
  clear t0
  generalize w.alloc (.cells #[.string nm, vc, .slice A2 cols.length c2, vf, vk] 27) = W0 at *
  go_loopw [7, 9, 12] (fun v xb i wr => ∃ k : Nat, i = .int .i64 k ∧ k ≤ l.length ∧ Aside0 (Below w.heap.size w wr) ∧ Aside0 (wr.heap[w.heap.size]? = some (.cells #[.string nm, vc, .slice A2 cols.length c2, vf, vk] 27 (0, 0))) ∧ Aside0 (Kd.N k58 58 wr w.heap.size (fun _ => True) v (withS cols (l.take k) key))) (fun _ _ i _ => l.length - (intOf i).toNat)
  case atStart => exact ⟨0, rfl, Nat.zero_le _, B0, T0, ⟨Kd.N_nil _ _ _ _ _⟩⟩
  case round =>
    clear B0 T0
    obtain ⟨k, rfl, hk', HB, HT1, HO⟩ := hrel
    by_cases h1 : k < l.length
    · have hst := Lib.hid (withS_step (cols := cols) (key := key) h1)
      obtain ⟨xa, A3, c3, rfl, x0, x1, x2, hle, hrow⟩ := at_T58 HR.out k (by omega) (by omega)
      rw [Int.toNat_natCast] at x0 x1 x2
      replace x0 := pw_cell_below HB.out x0
      replace x1 := pw_cell_below HB.out x1
      replace x2 := pw_cell_below HB.out x2
      have xbl := World.block_lt_of_cell? _ _ x0
      have HF := Aside0.mk (Kd.C_F k82_heap hrow)
      have HW := Aside0.mk hrow
      clear hrow
      have hk1 : (0 : Int) ≤ k := by omega
      have hk2 : (k : Int) < l.length := by omega
      have y0 : wr.cell? ⟨w.heap.size, 0, none⟩ = some (.string nm) := by rw [blk_cell HT1.out]; rfl
      have y1 : wr.cell? ⟨w.heap.size, 1, none⟩ = some vc := by rw [blk_cell HT1.out]; rfl
      have y2 : wr.cell? ⟨w.heap.size, 2, none⟩ = some (.slice A2 cols.length c2) := by rw [blk_cell HT1.out]; rfl
      have y3 : wr.cell? ⟨w.heap.size, 3, none⟩ = some vf := by rw [blk_cell HT1.out]; rfl
      have y4 : wr.cell? ⟨w.heap.size, 4, none⟩ = some vk := by rw [blk_cell HT1.out]; rfl
      have yb := World.block_lt_of_cell? _ _ y0
      go_wp2_with fail
      refine (c112 nm vc vf vk A2 _ c2 cols A3 _ c3 (rd_T58 l k).f0 _ (Kd.C_below HW.out (below_alloc HB.out _)) (Kd.C_below HC.out (below_alloc HB.out _)) hcl).mono ?_
      rintro e w1 ⟨v8, rfl, hR8, hb8⟩
      obtain ⟨A8, c8, rfl⟩ := Kd.R_slice hR8
      go_wp2_with fail
      have HB8 := Aside0.mk (below_step (below_alloc HB.out (.cells #[.slice A3 (rd_T58 l k).f0.length c3, .int .i64 (rd_T58 l k).f1.f0, .int .i64 (rd_T58 l k).f1.f1] 58)) hb8)
      refine (c135 _ _ _ (pick (rd_T58 l k).f0 cols) _ _ _ key w1 (Kd.R_reads' hR8).2.2 (Kd.C_below HK.out HB8.out)).mono ?_
      rintro e w2 ⟨rfl, hb9⟩
      have hb89 : Below wr.heap.size wr w2 := bthen (bel1 hb8) hb9
      have hbb : (wr.alloc (.cells #[.slice A3 (rd_T58 l k).f0.length c3, .int .i64 (rd_T58 l k).f1.f0, .int .i64 (rd_T58 l k).f1.f1] 58)).heap[wr.heap.size]? = some (.cells #[.slice A3 (rd_T58 l k).f0.length c3, .int .i64 (rd_T58 l k).f1.f0, .int .i64 (rd_T58 l k).f1.f1] 58 (0, 0)) := blk_new _ _
      have z9 := blk_below (blk_below hbb hb8) hb9
      have z0 : w2.cell? ⟨wr.heap.size, 0, none⟩ = some (.slice A3 (rd_T58 l k).f0.length c3) := by rw [blk_cell z9]; rfl
      have z1 : w2.cell? ⟨wr.heap.size, 1, none⟩ = some (.int .i64 (rd_T58 l k).f1.f0) := by rw [blk_cell z9]; rfl
      have z2 : w2.cell? ⟨wr.heap.size, 2, none⟩ = some (.int .i64 (rd_T58 l k).f1.f1) := by rw [blk_cell z9]; rfl
      have HB2 := Aside0.mk (below_step HB.out hb89)
      have HT2 := Aside0.mk (blk_below HT1.out hb89)
      have HO2 := Aside0.mk (Kd.N_below HO.out hb89)
      have HF2 := Aside0.mk (Kd.F_below HF.out (below_step HB.out hb89))
      generalize wr.heap.size = gb at *
      clear HB HT1 HO HF HW HB8 hb8 hb9 hb89 hbb z9 hR8 x0 x1 x2 xbl y0 y1 y2 y3 y4 yb
      by_cases hq : req (pick (rd_T58 l k).f0 cols) key = true
      · go_wp2_with (at_builtin; refine Kd.N_append k58 (w0 := w) w.heap.size rfl (.tmp 22) (.tmp 24) 28 58 (.agg #[(.slice none 0 0), (.int .i64 0), (.int .i64 0)]) 40 rfl Tryz.underlying28 info58 rfl (by decide) (by omega) u7 (withS cols (l.take k) key) (rd_T58 l k) [.slice A3 (rd_T58 l k).f0.length c3, .int .i64 (rd_T58 l k).f1.f0, .int .i64 (rd_T58 l k).f1.f1] (fun _ => True) (fun k_ => k_ < w.heap.size) rfl rfl (k58_mkF _ _ (rd_T58 l k) hle HF2.out) (fun k_ hk => ⟨trivial, fun e_ => by have := Kd.N_base HO2.out k_ e_.symm; omega⟩) (fun _ _ => trivial) ?aO ?aB ?aS ?aL ?_; (case aO => exact HO2.out); (case aB => exact HB2.out); (case aS => exact (below_size HB2.out)); (case aL => exact (by have := List.length_filter_le (fun x => req (pick x.f0 cols) key) (l.take k); rw [List.length_take] at this; unfold withS; omega)); intro v1 w1 ho hb hg hat; skip)
        exact ⟨⟨k + 1, by go_num, h1, ⟨hb⟩, ⟨blk_grown HT2.out hg (N_apart HO2.out HT2.out (by intro cs e; injection e with _ e2; cases e2))⟩, ⟨by rw [hst.out, if_pos hq]; exact ho⟩⟩, by simp [intOf]; omega⟩
      · go_wp2
        exact ⟨⟨k + 1, by go_num, h1, HB2, HT2, ⟨by rw [hst.out, if_neg hq, List.append_nil]; exact HO2.out⟩⟩, by simp [intOf]; omega⟩
    · go_wp2
      go_ret
      exact ⟨_, rfl, by rw [List.take_of_length_le (by omega)] at HO; exact HO.out, HB.out⟩
end Go.Proofs.YtiamihkfphmohaaGreatDoor.PA

namespace Go.Proofs.YtiamihkfphmohaaGreatDoor.PA
open Go.RowKit Go.Proofs.YtiamihkfphmohaaGreatDoorW.PrintWords Go.Proofs.YtiamihkfphmohaaGreatDoorW.PrintLast Go.Proofs.YtiamihkfphmohaaGreatDoorW.PrintMore

set_option maxHeartbeats 1000000 in
set_option maxRecDepth 100000 in
theorem c39 (nm : ByteArray) (vc vf vk : Value) (A2 : Option Addr) (n2 c2 : Nat) (cols : List Int) (A : Option Addr) (n c : Nat) (l : List S58) (A4 : Option Addr) (n4 c4 : Nat) (key : List S82) (w : World)
    (hc : (Kd.int .i64).C w A2 n2 cols) (hcl : cols.length ≤ 1000000) (hr : k58.C w A n l) (hl : l.length ≤ 400000) (hk : k82.C w A4 n4 key) :
    Calls Tryz.prog 24 #[.agg #[.string nm, vc, .slice A2 n2 c2, vf, vk], .slice A n c, .slice A4 n4 c4] w (SpanRes (fun x _ => x) w ((withS cols l key).map S58.f1) []) := by
  obtain rfl := hr.1
  obtain rfl := hc.1
  obtain rfl := hk.1
  have HR := Aside0.mk hr
  have HC := Aside0.mk hc
  have HK := Aside0.mk hk
  clear hr hc hk
  have HBX := Aside0.mk (below_alloc (Below.refl w.heap.size w) (.cells #[.string nm, vc, .slice A2 cols.length c2, vf, vk] 27))
  go_enter Tryz.func24, Tryz.ntmps24
  go_wp2_with fail
  refine (c116 nm vc vf vk A2 _ c2 cols A _ c l A4 _ c4 key _ (Kd.C_below HC.out HBX.out) hcl (Kd.C_below HR.out HBX.out) hl (Kd.C_below HK.out HBX.out)).mono ?_
  rintro e w1 ⟨v1, rfl, hN, hb1⟩
  have hxl : (withS cols l key).length ≤ 400000 := Nat.le_trans (List.length_filter_le _ _) hl
  obtain ⟨A5, c5, rfl, _, hC5⟩ := Kd.N_reads hN
  have HX := Aside0.mk hC5
  have HB1 := Aside0.mk (bel1 hb1)
  clear hN hC5 hb1 HBX HR HC HK
  generalize hxs : withS cols l key = xs at *
  have HXS := Lib.hid hxs
  clear hxs
  go_wp2
  go_loopw [7, 9, 15] (fun v xb i wr => ∃ k : Nat, i = .int .i64 k ∧ k ≤ xs.length ∧ Aside0 (Below w1.heap.size w1 wr) ∧ Aside0 (Kd.R k50 50 wr w1.heap.size (fun _ => True) v ((xs.take k).map S58.f1))) (fun _ _ i _ => xs.length - (intOf i).toNat)
  case atStart => exact ⟨0, rfl, Nat.zero_le _, ⟨Below.refl _ _⟩, ⟨Kd.R_nil _ _ _ _ _⟩⟩
  case round =>
    obtain ⟨k, rfl, hk', HB, HO⟩ := hrel
    have hHB := HB.out.size
    by_cases h1 : k < xs.length
    · have hst : (xs.take (k + 1)).map S58.f1 = (xs.take k).map S58.f1 ++ [(rd_T58 xs k).f1] := by
        rw [take_step h1, List.map_append]
        simp [rd_T58, h1]
      have hst := Lib.hid hst
      obtain ⟨xa, A3, c3, e, x0, x1, x2, _, _⟩ := at_T58 HX.out k (by omega) (by omega)
      cases e
      rw [Int.toNat_natCast] at x0 x1 x2
      replace x0 := pw_cell_below HB.out x0
      replace x1 := pw_cell_below HB.out x1
      replace x2 := pw_cell_below HB.out x2
      have xbl := World.block_lt_of_cell? _ _ x0
      have hk1 : (0 : Int) ≤ k := by omega
      have hk2 : (k : Int) < xs.length := by omega
      go_wp2_with (at_builtin; refine Kd.R_append k50 (w0 := w1) w1.heap.size rfl (.tmp 19) (.tmp 22) 41 50 (.agg #[(.int .i64 0), (.int .i64 0)]) 16 rfl Tryz.underlying41 info50 rfl (by decide) (by omega) u7 ((xs.take k).map S58.f1) (rd_T58 xs k).f1 [.int .i64 (rd_T58 xs k).f1.f0, .int .i64 (rd_T58 xs k).f1.f1] (fun _ => True) (fun _ => False) rfl (congrArg (fun g => Value.slice (some ⟨g, 0, none⟩) 1 1) (show wr.heap.size + 1 = (wr.alloc (.cells #[.slice A3 (rd_T58 xs k).f0.length c3, .int .i64 (rd_T58 xs k).f1.f0, .int .i64 (rd_T58 xs k).f1.f1] 58)).heap.size from (by simp))) (k50_mkM _ _ _ (rd_T58 xs k).f1) (fun _ hk => hk.elim) (fun _ _ => trivial) ?aO ?aB ?aS ?aL ?_; (case aO => exact (Kd.R_alloc HO.out _)); (case aB => exact (below_alloc HB.out _)); (case aS => exact (below_size (below_alloc HB.out _))); (case aL => exact (by rw [List.length_map, List.length_take]; omega)); intro v1 w1 ho hb hg hat; skip)
      exact ⟨⟨k + 1, by go_num, h1, ⟨hb⟩, ⟨by rw [hst.out]; exact ho⟩⟩, by simp [intOf]; omega⟩
    · rw [List.take_of_length_le (by omega)] at HO
      obtain ⟨A7, c7, hv⟩ := Kd.R_slice HO.out
      rw [List.length_map] at hv
      have hR7 : k50.C wr A7 xs.length (xs.map S58.f1) := by
        have h := HO.out
        rw [hv] at h
        have h2 := (Kd.R_reads' h).2.2
        rw [List.length_map] at h2
        exact h2
      subst hv
      go_wp2_with fail
      refine (c119 _ _ _ (xs.map S58.f1) wr hR7 (by rw [List.length_map]; omega)).mono ?_
      rintro e w2 ⟨v, r, rfl, h1, h2, h3, h4, h5⟩
      go_wp2
      go_ret
      exact ⟨v, r, rfl, h1, by rw [HXS.out]; exact h2, by rw [HXS.out]; exact h3, Kd.R_lower h4 (Nat.le_trans HB1.out.size hHB), bthen (bthen HB1.out HB.out) h5⟩
end Go.Proofs.YtiamihkfphmohaaGreatDoor.PA

namespace Go.Proofs.YtiamihkfphmohaaGreatDoor.PA
open Go.RowKit Go.Proofs.YtiamihkfphmohaaGreatDoorW.PrintWords Go.Proofs.YtiamihkfphmohaaGreatDoorW.PrintLast Go.Proofs.YtiamihkfphmohaaGreatDoorW.PrintMore

def en82 (x : S82) : List Value := [.int .i64 x.f0, .int .i64 x.f1, .string x.f2]
set_option maxHeartbeats 1000000 in
set_option maxRecDepth 100000 in
theorem c248 (A : Option Addr) (n c : Nat) (row : List S82) (w : World) (hr : k82.C w A n row) (hl : row.length ≤ 1000000) :
    Calls Tryz.prog 172 #[.slice A n c] w (RowRes row w) := by
  obtain rfl := hr.1
  have HR := Aside0.mk hr
  clear hr
  have hq : ∀ (W : World) (a : Option Addr) (l c : Nat), (binOp .eql 34 (.slice a l c) (.slice none 0 0)).run Tryz.prog W = .ok (.bool a.isNone) W := fun W a l c => Lib.run_eql_slice_nil W 34 82 a l c 0 0 Tryz.underlying34
  cases A with
  | none =>
    obtain rfl : row = [] := by
      cases row with
      | nil => rfl
      | cons x l =>
        obtain ⟨a, e, _⟩ := at_T82 HR.out 0 (by omega) (by simp)
        cases e
    go_enter Tryz.func172, Tryz.ntmps172
    go_wp2
    go_ret
    exact ⟨_, rfl, Kd.R_nil _ _ _ _ _, Below.refl _ _⟩
  | some a =>
    have HO := Aside0.mk (R_made (d := k82) (e := 82) (size := 3) (w := w.alloc (.cells #[] 82)) (base := w.heap.size) (v := .slice (some ⟨w.heap.size, 0, none⟩) 0 0) rfl (by have h := World.ownsRow_lit (base := w.heap.size) (e := 82) (size := 3) w #[] 0 (Nat.le_refl _) (by simp [maxLen]) (by simp); simpa using h))
    have HQ := Aside0.mk (show ReadsRow (fun x cs => cs = en82 x) 3 (w.alloc (.cells #[] 82)) (some a) row.length row from ReadsRow.imp_ HR.out (below_alloc (Below.refl _ _) _) (fun x cs h => k82_open h))
    go_enter Tryz.func172, Tryz.ntmps172
    go_wp2_with (at_builtin; refine Kd.R_append_rows k82 (Rr := fun x cs => cs = en82 x) (w0 := w) w.heap.size rfl (.tmp 5) (.tmp 6) 34 82 (.agg #[(.int .i64 0), (.int .i64 0), (.string ⟨#[]⟩)]) 32 rfl Tryz.underlying34 info82 rfl (by decide) (by omega) (.slice (some ⟨w.heap.size, 0, none⟩) 0 0) ([] : List S82) row (some a) row.length c (fun _ => True) (fun _ => False) rfl rfl ?aO ?aR ?aK (fun _ hk => hk.elim) (fun _ _ => trivial) ?aB ?aS ?aL ?_; (case aO => exact HO.out); (case aR => exact HQ.out); (case aK => exact (fun x cs h => h ▸ k82_mkM _ _ _ x)); (case aB => exact (below_alloc (Below.refl _ _) _)); (case aS => exact (below_size (below_alloc (Below.refl _ _) _))); (case aL => exact (by simp; omega)); intro v1 w1 ho hb hg hat; skip)
    go_ret
    exact ⟨_, rfl, ho, hb⟩
end Go.Proofs.YtiamihkfphmohaaGreatDoor.PA

namespace Go.Proofs.YtiamihkfphmohaaGreatDoor.PA
open Go.RowKit Go.Proofs.YtiamihkfphmohaaGreatDoorW.PrintWords Go.Proofs.YtiamihkfphmohaaGreatDoorW.PrintLast Go.Proofs.YtiamihkfphmohaaGreatDoorW.PrintMore

/-- Nothing that was there turns; the draws go on. -/
def Gro (w w' : World) : Prop := Below w.heap.size w w' ∧ w.drawn ≤ w'.drawn
theorem Gro.grow {w w' : World} (h : Gro w w') : ∃ q os', w' = Go.Sort.grow (w.drewN q) os' := by
  obtain ⟨h, hd⟩ := h
  refine ⟨w'.drawn - w.drawn, w'.heap.extract w.heap.size w'.heap.size, ?_⟩
  have hh : w'.heap = w.heap ++ w'.heap.extract w.heap.size w'.heap.size := by
    have hs := h.size
    apply Array.ext_getElem?
    intro i
    by_cases hi : i < w.heap.size
    · rw [h.block i hi, Array.getElem?_append_left hi]
    · rw [Array.getElem?_append_right (by omega), Array.getElem?_extract]
      by_cases h2 : i < w'.heap.size
      · rw [if_pos (by omega)]
        congr 1
        omega
      · rw [if_neg (by omega), Array.getElem?_eq_none (by omega)]
  have h1 := h.os
  have h2 := h.tape
  have h3 := h.output
  cases w with
  | mk heap tape drawn os output =>
    cases w' with
    | mk heap' tape' drawn' os' output' =>
      simp only [Go.Sort.grow, World.drewN] at *
      subst h1 h2 h3
      congr 1
      omega
theorem dr_alloc (w : World) (o : Obj) : (w.alloc o).drawn = w.drawn := rfl
theorem dr_drewN (w : World) (n : Nat) : (w.drewN n).drawn = w.drawn + n := rfl
theorem dr_drew (w : World) : w.drew.drawn = w.drawn + 1 := rfl
set_option maxHeartbeats 1000000 in
set_option maxRecDepth 100000 in
theorem g232 (a0 a1 b0 b1 : Int) (a2 b2 : ByteArray) (w : World) :
    Calls Tryz.prog 151 #[.agg #[.int .i64 a0, .int .i64 a1, .string a2], .agg #[.int .i64 b0, .int .i64 b1, .string b2]] w fun e w' => e = .returned (.int .i64 (vcmp ⟨a0, a1, a2⟩ ⟨b0, b1, b2⟩)) ∧ Gro w w' := by
  have H := Lib.hid (vcmp_or ⟨a0, a1, a2⟩ ⟨b0, b1, b2⟩)
  go_enter Tryz.func151, Tryz.ntmps151
  go_wp2
  go_region_held3 (fun w' => w'.cell? ⟨w.heap.size, 0, none⟩ = some (.int .i64 a0) ∧ w'.cell? ⟨w.heap.size, 1, none⟩ = some (.int .i64 a1) ∧ w'.cell? ⟨w.heap.size, 2, none⟩ = some (.string a2) ∧ w'.cell? ⟨w.heap.size + 1, 0, none⟩ = some (.int .i64 b0) ∧ w'.cell? ⟨w.heap.size + 1, 1, none⟩ = some (.int .i64 b1) ∧ w'.cell? ⟨w.heap.size + 1, 2, none⟩ = some (.string b2))
    (go_keep)
    (first | (go_at_call 148; refine (c149 _ _ _).mono ?_; rintro e w1 ⟨rfl, rfl⟩) | (go_at_call 179; refine (c276 _ _ _).mono ?_; rintro e w1 ⟨rfl, rfl⟩) | (go_at_call 147; refine (c197 _ _ _ [icmp a0 b0, icmp a1 b1, tcmp a2 b2] _ (by exact C_blk_ints (blk_drew (hd_alloc_eq (by simp))) _ rfl _ rfl (by simp))).mono ?_; rintro e w1 ⟨rfl, rfl⟩))
  go_wp2
  go_ret
  exact ⟨ri H.out, (by repeat (first | exact Below.refl _ _ | apply below_alloc | apply below_drew | apply pw_below_drewN | apply below_drew1)), (by simp only [dr_alloc, dr_drewN, dr_drew]; omega)⟩
theorem gro_step {w w1 w2 : World} (h : Gro w w1) (h2 : Gro w1 w2) : Gro w w2 := ⟨bthen h.1 h2.1, Nat.le_trans h.2 h2.2⟩
set_option maxHeartbeats 1000000 in
theorem g231 (A1 : Option Addr) (n1 c1 : Nat) (l1 : List S82) (A2 : Option Addr) (n2 c2 : Nat) (l2 : List S82) (w : World) (hr1 : k82.C w A1 n1 l1) (hr2 : k82.C w A2 n2 l2) :
    Calls Tryz.prog 150 #[.slice A1 n1 c1, .slice A2 n2 c2, .func (.func 151) #[] #[]] w fun e w' => e = .returned (.int .i64 (rcmp l1 l2)) ∧ Gro w w' := by
  obtain rfl := hr1.1
  obtain rfl := hr2.1
  have hm1 := hr1.2.1
  have hm2 := hr2.2.1
  have HR1 := Aside0.mk hr1
  have HR2 := Aside0.mk hr2
  clear hr1 hr2
  go_enter Tryz.func150, Tryz.ntmps150
  go_wp2
  go_loopw [13] (fun i wr => ∃ k : Nat, i = .int .i64 k ∧ k ≤ l1.length ∧ k ≤ l2.length ∧ Aside0 (rcmp (l1.drop k) (l2.drop k) = rcmp l1 l2) ∧ Aside0 (Gro w wr)) (fun i _ => l1.length - (intOf i).toNat)
  case atStart => exact ⟨0, rfl, Nat.zero_le _, Nat.zero_le _, ⟨rfl⟩, ⟨Below.refl _ _, Nat.le_refl _⟩⟩
  case round =>
    obtain ⟨k, rfl, hk1', hk2', HC, HB⟩ := hrel
    by_cases h1 : k < l1.length
    · obtain ⟨xa, rfl, x0, x1, x2⟩ := at_T82 HR1.out k (by omega) (by omega)
      rw [Int.toNat_natCast] at x0 x1 x2
      replace x0 := pw_cell_below HB.out.1 x0
      replace x1 := pw_cell_below HB.out.1 x1
      replace x2 := pw_cell_below HB.out.1 x2
      have xb := World.block_lt_of_cell? _ _ x0
      by_cases h2 : k < l2.length
      · obtain ⟨ya, rfl, y0, y1, y2⟩ := at_T82 HR2.out k (by omega) (by omega)
        rw [Int.toNat_natCast] at y0 y1 y2
        replace y0 := pw_cell_below HB.out.1 y0
        replace y1 := pw_cell_below HB.out.1 y1
        replace y2 := pw_cell_below HB.out.1 y2
        have yb := World.block_lt_of_cell? _ _ y0
        have hk1 : (0 : Int) ≤ k := by omega
        have hk2 : (k : Int) < l1.length := by omega
        have hk3 : (k : Int) < l2.length := by omega
        go_wp2_with fail
        refine (g232 _ _ _ _ _ _ _).mono ?_
        rintro e w1 ⟨rfl, hb1⟩
        have n0_ := Aside0.mk (show Gro w w1 from ⟨below_step (by repeat (first | (with_reducible first | exact HB.out.1 | apply below_alloc | apply pw_below_drewN | apply below_drew1) | exact HB.out.1)) hb1.1, by have h1 := HB.out.2; have h2 := hb1.2; simp only [dr_alloc, dr_drewN, dr_drew] at h2; omega⟩)
        clear HB hb1
        have HB := n0_
        clear n0_
        clear x0 x1 x2 xb y0 y1 y2 yb
        have hs := Lib.hid (rcmp_step h1 h2)
        go_wp2
        · have hne : (vcmp (rd_T82 l1 k) (rd_T82 l2 k) != 0) = true := by assumption
          go_ret
          exact ⟨ri (by rw [← HC.out, hs.out, if_neg (by simpa using hne)]), HB.out⟩
        · have hne : (vcmp (rd_T82 l1 k) (rd_T82 l2 k) != 0) = false := by assumption
          exact ⟨⟨k + 1, by go_num, h1, h2, ⟨by rw [← HC.out, hs.out, if_pos (by simpa using hne)]⟩, HB⟩, by simp [intOf]; omega⟩
      · have hk3 : ¬ (k : Int) < l2.length := by omega
        go_wp2
        go_ret
        exact ⟨ri (by rw [← HC.out, rcmp_end2 h1 (by omega)]), (by repeat (first | (with_reducible first | exact HB.out.1 | apply below_alloc | apply pw_below_drewN | apply below_drew1) | exact HB.out.1)), by have := HB.out.2; simp only [dr_alloc, dr_drewN, dr_drew]; omega⟩
    · have hk3 : ¬ (k : Int) < l1.length := by omega
      go_wp2
      · go_ret
        exact ⟨ri (by rw [← HC.out, rcmp_end1 (by omega) (by omega)]), HB.out⟩
      · go_ret
        exact ⟨ri (by rw [← HC.out, rcmp_end3 (by omega) (by omega)]), HB.out⟩
set_option maxHeartbeats 400000 in
theorem g189 (A1 : Option Addr) (n1 c1 : Nat) (l1 : List S82) (A2 : Option Addr) (n2 c2 : Nat) (l2 : List S82) (w : World) (hr1 : k82.C w A1 n1 l1) (hr2 : k82.C w A2 n2 l2) :
    Calls Tryz.prog 114 #[.slice A1 n1 c1, .slice A2 n2 c2] w fun e w' => e = .returned (.int .i64 (rcmp l1 l2)) ∧ Gro w w' := by
  have HR1 := Aside0.mk hr1
  have HR2 := Aside0.mk hr2
  clear hr1 hr2
  go_enter Tryz.func114, Tryz.ntmps114
  go_wp2_with fail
  refine (g231 _ _ _ _ _ _ _ _ _ HR1.out HR2.out).mono ?_
  rintro e w1 ⟨rfl, hb1⟩
  have HB := Aside0.mk hb1
  clear hb1
  go_wp2
  go_ret
  exact ⟨rfl, HB.out⟩
end Go.Proofs.YtiamihkfphmohaaGreatDoor.PA

namespace Go.Proofs.YtiamihkfphmohaaGreatDoor.PA
open Go.RowKit Go.Proofs.YtiamihkfphmohaaGreatDoorW.PrintWords Go.Proofs.YtiamihkfphmohaaGreatDoorW.PrintLast Go.Proofs.YtiamihkfphmohaaGreatDoorW.PrintMore

structure OrdC {α : Type} (c : α → α → Int) : Prop where
  eq0 : ∀ a b, c a b = 0 ↔ a = b
  neg : ∀ a b, c b a = - c a b
  tr : ∀ a b d, c a b < 0 → c b d < 0 → c a d < 0
def lexL {α : Type} (c : α → α → Int) : List α → List α → Int
  | [], [] => 0
  | [], _ :: _ => -1
  | _ :: _, [] => 1
  | x :: l, y :: m => if c x y = 0 then lexL c l m else c x y
theorem lexL_ord {α : Type} {c : α → α → Int} (h : OrdC c) : OrdC (lexL c) where
  eq0 := by
    intro a
    induction a with
    | nil => intro b; cases b <;> simp [lexL]
    | cons x a ih =>
      intro b
      cases b with
      | nil => simp [lexL]
      | cons y b =>
        simp only [lexL, List.cons.injEq]
        split
        · rename_i h0
          rw [ih b, (h.eq0 _ _).1 h0]
          simp
        · rename_i h0
          have : ¬ x = y := fun he => h0 ((h.eq0 _ _).2 he)
          simp [h0, this]
  neg := by
    intro a
    induction a with
    | nil => intro b; cases b <;> simp [lexL]
    | cons x a ih =>
      intro b
      cases b with
      | nil => simp [lexL]
      | cons y b =>
        simp only [lexL]
        have h1 := h.neg x y
        by_cases h0 : c x y = 0
        · rw [if_pos (by omega), if_pos h0, ih b]
        · rw [if_neg (by omega), if_neg h0, h1]
  tr := by
    intro a
    induction a with
    | nil =>
      intro b d h1 h2
      cases b with
      | nil => simp [lexL] at h1
      | cons y b =>
        cases d with
        | nil => simp [lexL] at h2
        | cons z d => simp [lexL]
    | cons x a ih =>
      intro b d h1 h2
      cases b with
      | nil => simp [lexL] at h1
      | cons y b =>
        cases d with
        | nil => simp [lexL] at h2
        | cons z d =>
          simp only [lexL] at h1 h2 ⊢
          by_cases h3 : c x y = 0
          · rw [if_pos h3] at h1
            rw [(h.eq0 _ _).1 h3]
            by_cases h4 : c y z = 0
            · rw [if_pos h4] at h2 ⊢
              exact ih _ _ h1 h2
            · rw [if_neg h4] at h2 ⊢
              exact h2
          · rw [if_neg h3] at h1
            by_cases h4 : c y z = 0
            · have := (h.eq0 _ _).1 h4
              subst this
              rw [if_neg h3]
              exact h1
            · rw [if_neg h4] at h2
              have h5 := h.tr _ _ _ h1 h2
              rw [if_neg (by omega)]
              exact h5
namespace OrdC
variable {α : Type} {c : α → α → Int} (h : OrdC c)
include h
theorem refl (a : α) : c a a = 0 := (h.eq0 a a).2 rfl
theorem le_trans {a b d : α} (h1 : c a b ≤ 0) (h2 : c b d ≤ 0) : c a d ≤ 0 := by
  by_cases e1 : c a b = 0
  · rw [(h.eq0 _ _).1 e1]; exact h2
  · by_cases e2 : c b d = 0
    · rw [← (h.eq0 _ _).1 e2]; exact h1
    · have := h.tr a b d (by omega) (by omega); omega
theorem le_antisymm {a b : α} (h1 : c a b ≤ 0) (h2 : c b a ≤ 0) : a = b := (h.eq0 _ _).1 (by have := h.neg a b; omega)
/-- There is one list in order with these elements. -/
theorem sorted_unique {l m : List α} (hl : l.Pairwise (fun a b => c a b ≤ 0)) (hm : m.Pairwise (fun a b => c a b ≤ 0)) (hp : l.Perm m) : l = m :=
  List.Perm.eq_of_pairwise (fun _ _ _ _ h1 h2 => h.le_antisymm h1 h2) hl hm hp
end OrdC
theorem icmp_ord : OrdC icmp where
  eq0 a b := by unfold icmp; split <;> (try split) <;> constructor <;> intro h <;> omega
  neg a b := by unfold icmp; repeat' split <;> try omega
  tr a b d h1 h2 := by
    unfold icmp at *
    have a1 : a < b := by
      by_cases h : a < b
      · exact h
      · rw [if_neg h] at h1; split at h1 <;> omega
    have a2 : b < d := by
      by_cases h : b < d
      · exact h
      · rw [if_neg h] at h2; split at h2 <;> omega
    rw [if_pos (by omega)]; omega
def ucmp (a b : UInt8) : Int := if a < b then -1 else if b < a then 1 else 0
theorem ucmp_is (a b : UInt8) : ucmp a b = icmp a.toNat b.toNat := by
  unfold ucmp icmp
  simp only [UInt8.lt_iff_toNat_lt, Int.ofNat_lt]
theorem ucmp_ord : OrdC ucmp where
  eq0 a b := by
    rw [ucmp_is, icmp_ord.eq0]
    constructor
    · intro h
      exact UInt8.toNat_inj.1 (by omega)
    · rintro rfl; rfl
  neg a b := by rw [ucmp_is, ucmp_is, icmp_ord.neg]
  tr a b d h1 h2 := by
    rw [ucmp_is] at *
    exact icmp_ord.tr _ _ _ h1 h2
theorem cmpb_lex : ∀ a b : List UInt8, Lib.compareBytes a b = lexL ucmp a b
  | [], [] => rfl
  | [], _ :: _ => rfl
  | _ :: _, [] => rfl
  | x :: a, y :: b => by
    have ih := cmpb_lex a b
    simp only [Lib.compareBytes, lexL, ucmp]
    by_cases h1 : x < y
    · simp [h1]
    · by_cases h2 : y < x
      · simp [h1, h2]
      · simp [h1, h2, ih]
theorem tcmp_lex (a b : ByteArray) : tcmp a b = lexL ucmp a.data.toList b.data.toList := by rw [tcmp_is, cmpb_lex]
theorem tcmp_ord : OrdC tcmp where
  eq0 a b := by
    rw [tcmp_lex, (lexL_ord ucmp_ord).eq0]
    constructor
    · intro h
      cases a; cases b
      simp only at h
      congr 1
      exact Array.toList_inj.1 h
    · rintro rfl; rfl
  neg a b := by rw [tcmp_lex, tcmp_lex, (lexL_ord ucmp_ord).neg]
  tr a b d h1 h2 := by
    rw [tcmp_lex] at *
    exact (lexL_ord ucmp_ord).tr _ _ _ h1 h2
theorem vcmp_ord : OrdC vcmp where
  eq0 a b := by
    obtain ⟨a0, a1, a2⟩ := a
    obtain ⟨b0, b1, b2⟩ := b
    simp only [vcmp, S82.mk.injEq]
    by_cases h0 : a0 = b0
    · by_cases h1 : a1 = b1
      · rw [if_pos h0, if_pos h1, tcmp_ord.eq0]; simp [h0, h1]
      · rw [if_pos h0, if_neg h1, icmp_ord.eq0]; simp [h0, h1]
    · rw [if_neg h0, icmp_ord.eq0]; simp [h0]
  neg a b := by
    obtain ⟨a0, a1, a2⟩ := a
    obtain ⟨b0, b1, b2⟩ := b
    simp only [vcmp]
    by_cases h0 : a0 = b0
    · by_cases h1 : a1 = b1
      · rw [if_pos h0, if_pos h1, if_pos h0.symm, if_pos h1.symm, tcmp_ord.neg]
      · rw [if_pos h0, if_neg h1, if_pos h0.symm, if_neg (Ne.symm h1), icmp_ord.neg]
    · rw [if_neg h0, if_neg (Ne.symm h0), icmp_ord.neg]
  tr a b d h1 h2 := by
    obtain ⟨a0, a1, a2⟩ := a
    obtain ⟨b0, b1, b2⟩ := b
    obtain ⟨d0, d1, d2⟩ := d
    simp only [vcmp] at *
    have ic : ∀ x y : Int, icmp x y < 0 ↔ x < y := by
      intro x y
      unfold icmp
      split
      · simp [*]
      · split <;> simp [*]
    by_cases h0 : a0 = b0
    · subst h0
      rw [if_pos rfl] at h1
      by_cases h3 : a0 = d0
      · subst h3
        rw [if_pos rfl] at h2 ⊢
        by_cases h4 : a1 = b1
        · subst h4
          rw [if_pos rfl] at h1
          by_cases h5 : a1 = d1
          · subst h5
            rw [if_pos rfl] at h2 ⊢
            exact tcmp_ord.tr _ _ _ h1 h2
          · rw [if_neg h5] at h2 ⊢
            exact h2
        · rw [if_neg h4] at h1
          by_cases h5 : b1 = d1
          · subst h5
            rw [if_neg h4]
            exact h1
          · rw [if_neg h5] at h2
            rw [ic] at h1 h2
            rw [if_neg (by omega), ic]
            omega
      · rw [if_neg h3] at h2 ⊢
        exact h2
    · rw [if_neg h0] at h1
      by_cases h3 : b0 = d0
      · subst h3
        rw [if_neg h0]
        exact h1
      · rw [if_neg h3] at h2
        rw [ic] at h1 h2
        rw [if_neg (by omega), ic]
        omega
theorem rcmp_lex : ∀ a b : List S82, rcmp a b = lexL vcmp a b
  | [], [] => rfl
  | [], _ :: _ => rfl
  | _ :: _, [] => rfl
  | x :: a, y :: b => by rw [rcmp, lexL, rcmp_lex a b]
theorem rcmp_ord : OrdC rcmp := by
  have : (rcmp : List S82 → List S82 → Int) = lexL vcmp := by funext a b; exact rcmp_lex a b
  rw [this]
  exact lexL_ord vcmp_ord
theorem req_iff {a b : List S82} : req a b = true ↔ a = b := by
  unfold req
  rw [beq_iff_eq, rcmp_ord.eq0]
end Go.Proofs.YtiamihkfphmohaaGreatDoor.PA

namespace Go.Proofs.YtiamihkfphmohaaGreatDoor.PA
open Go.RowKit Go.Proofs.YtiamihkfphmohaaGreatDoorW.PrintWords Go.Proofs.YtiamihkfphmohaaGreatDoorW.PrintLast Go.Proofs.YtiamihkfphmohaaGreatDoorW.PrintMore
open Go.Sort Go.Shelf Go.Proofs
/-- An element of a row with its cells; what they lead to is not the row's block. -/
structure Elt {α : Type} (d : Kd α) (w : World) (ok : Nat → Prop) (g : Nat) where
  val : α
  cs : List Value
  fk : Kd.FK d w (fun k => ok k ∧ k ≠ g) val cs
theorem Elt.len {α : Type} {d : Kd α} {w : World} {ok : Nat → Prop} {g : Nat} (y : Elt d w ok g) : y.cs.length = d.sz := d.K_len (Kd.FK_now y.fk)
theorem Elt.one {α : Type} {d : Kd α} {w : World} {ok : Nat → Prop} {g : Nat} (y : Elt d w ok g) : ∀ v ∈ y.cs, v.oneCell' = true := d.K_one (Kd.FK_now y.fk)
/-- What an element's cells say holds in every world that differs in the row alone. -/
theorem Elt.in_ {α : Type} {d : Kd α} {w w1 : World} {ok : Nat → Prop} {g : Nat} (y : Elt d w ok g) (hg : w.grownBy w1 (some g)) : Kd.FK d w1 (fun k => ok k ∧ k ≠ g) y.val y.cs :=
  Kd.FK_grown y.fk hg (fun k hk he => hk.2 (Option.some.inj he))
theorem N_sortable {α : Type} {d : Kd α} {e : Nat} {w : World} {base : Nat} {ok : Nat → Prop} {v : Value} {xs : List α} (hsz : 0 < d.sz) (HN : Kd.N d e w base ok v xs) (hne : 0 < xs.length) :
    ∃ g cap, v = .slice (some ⟨g, 0, none⟩) xs.length cap ∧ base ≤ g ∧ g < w.heap.size ∧ ∃ (ys : List (Elt d w ok g)), ys.map Elt.val = xs ∧ ∀ [Inhabited (Elt d w ok g)], HoldsK (fun y : Elt d w ok g => y.cs) d.sz w g 0 ys.toArray ∧
      ∀ n (D : Array (Elt d w ok g)) os, D.size = ys.length → Kd.N d e (sortWorldK (fun y : Elt d w ok g => y.cs) d.sz w g 0 n D os) base ok v (D.toList.map Elt.val) ∧ w.grownBy (sortWorldK (fun y : Elt d w ok g => y.cs) d.sz w g 0 n D os) (some g) := by
  have HNF := HN
  obtain ⟨h0, rows, hl, hR, hf⟩ := HN
  obtain ⟨_, inner, ho, hr⟩ := hR
  obtain ⟨hil, ho2⟩ := ho
  rcases ho2 with ⟨rfl, h1⟩ | ⟨g, cap, cur, rfl, hg, hh, hnc, hcm, hcs, htk⟩
  · omega
  · have hlt : g < w.heap.size := (Array.getElem?_eq_some_iff.1 hh).1
    have hf' : ∀ (j : Nat) (h : j < xs.length), Kd.FK d w (fun k => ok k ∧ k ≠ g) xs[j] (rows[j]'(by omega)) := fun j h => by
      have := hf j _ _ (List.getElem?_eq_getElem h) (List.getElem?_eq_getElem (by omega))
      exact Kd.FK_mono this (fun k hk => ⟨hk.1, fun he => hk.2 (by simp [Value.ownBlock, he])⟩)
    refine ⟨g, cap, by rw [hl], hg, hlt, List.ofFn (fun i : Fin xs.length => ⟨xs[i], rows[i.1]'(by omega), hf' i.1 i.2⟩), ?_, ?_⟩
    · apply List.ext_getElem
      · simp
      · intro i h1 h2
        simp
    intro inh
    have hin : ∀ j (hj : j < xs.length), (inner.drop (j * d.sz)).take d.sz = rows[j]'(by omega) := fun j hj => by
      have := hr.2 j _ (List.getElem?_eq_getElem (show j < rows.length by omega))
      exact this.1
    have hrl : ∀ j (hj : j < xs.length), (rows[j]'(by omega)).length = d.sz := fun j hj => d.K_len (Kd.FK_now (hf' j hj))
    refine ⟨?_, fun n D os hD => ?_⟩
    · intro t ht
      rw [size_flatK] at ht
      have ht' : t < xs.length * d.sz := by simpa using ht
      refine ⟨?_, blk_frozen hh _⟩
      rw [Nat.zero_add, blk_cell hh t, get_flatK _ _ _ _ ht]
      have hj : t / d.sz < xs.length := Nat.div_lt_of_lt_mul (by rw [Nat.mul_comm]; exact ht')
      have hm : t % d.sz < d.sz := Nat.mod_lt _ hsz
      have e1 : cur[t]? = inner[t]? := by
        rw [← htk, List.getElem?_take, if_pos (by rw [hl]; exact ht'), Array.getElem?_toList]
      have e2 : inner[t]? = (rows[t / d.sz]'(by omega))[t % d.sz]? := by
        rw [← hin _ hj, List.getElem?_take, if_pos hm, List.getElem?_drop]
        congr 1
        rw [Nat.mul_comm]
        exact (Nat.div_add_mod t d.sz).symm
      have hlen := hrl _ hj
      rw [e1, e2, List.getElem?_eq_getElem (by omega)]
      simp [hj]
      rw [List.getElem?_eq_getElem (by omega)]
      rfl
    · have hD' : D.size = xs.length := by rw [hD]; simp
      obtain ⟨hW, hgr⟩ := sortW_heap (fun y : Elt d w ok g => y.cs) d.sz g n D os hh
      refine ⟨⟨h0, D.toList.map Elt.cs, by simp, ⟨fun k hk => hk.symm, (flatK (fun y : Elt d w ok g => y.cs) d.sz D).toList, ⟨?_, .inr ⟨g, cap, _, by simp [hD', hl], hg, hW, by simp only [List.length_map, Array.length_toList]; omega, hcm, ?_, ?_⟩⟩, ?_, ?_⟩, ?_⟩, hgr⟩
      · simp [Kd.raw]
      · simp [putCells, hcs]
      · have : (D.toList.map Elt.cs).length * (Kd.raw d.sz).sz = (flatK (fun y : Elt d w ok g => y.cs) d.sz D).size := by simp [Kd.raw]
        rw [this]
        have hcs' : cur.size = cap * d.sz := hcs
        exact putCells_take _ _ (by rw [size_flatK, hcs', hD']; exact Nat.mul_le_mul_right _ (by omega))
      · simp [Kd.raw]
      · intro j p hp
        rw [List.getElem?_map] at hp
        obtain ⟨y, hy, rfl⟩ := Option.map_eq_some_iff.1 hp
        have hjD : j < D.size := by
          have := (List.getElem?_eq_some_iff.1 hy).1
          simpa using this
        have hlen := y.len
        have key : ((flatK (fun y : Elt d w ok g => y.cs) d.sz D).toList.drop (j * d.sz)).take d.sz = y.cs := ?key
        · show (_ = _ ∧ _ ∧ _)
          simp only [Kd.raw]
          rw [key]
          exact ⟨rfl, y.len, y.one⟩
        case key =>
          apply List.ext_getElem?
          intro i
          rw [List.getElem?_take]
          by_cases hi : i < d.sz
          · rw [if_pos hi, List.getElem?_drop, Array.getElem?_toList]
            have hb : j * d.sz + i < D.size * d.sz := by
              have : (j + 1) * d.sz ≤ D.size * d.sz := Nat.mul_le_mul_right _ hjD
              rw [Nat.succ_mul] at this
              omega
            rw [Array.getElem?_eq_getElem (by rw [size_flatK]; exact hb)]
            have hg2 := get_flatK (fun y : Elt d w ok g => y.cs) d.sz D (j * d.sz + i) hb
            rw [getElem!_pos _ _ (by rw [size_flatK]; exact hb)] at hg2
            rw [hg2]
            have e1 : (j * d.sz + i) / d.sz = j := by
              rw [Nat.mul_comm, Nat.mul_add_div hsz, Nat.div_eq_of_lt hi, Nat.add_zero]
            have e2 : (j * d.sz + i) % d.sz = i := by
              rw [Nat.mul_comm, Nat.mul_add_mod, Nat.mod_eq_of_lt hi]
            rw [e1, e2]
            have hyD : D[j]! = y := by
              rw [getElem!_pos D j hjD]
              rw [Array.getElem?_toList, Array.getElem?_eq_getElem hjD] at hy
              exact Option.some.inj hy
            rw [hyD, List.getElem?_eq_getElem (by omega)]
            simp [List.getElem!_eq_getElem?_getD, List.getElem?_eq_getElem (show i < y.cs.length by omega)]
          · rw [if_neg hi, List.getElem?_eq_none (by omega)]
      · intro j x c hx hc
        rw [List.getElem?_map] at hx hc
        obtain ⟨y, hy, rfl⟩ := Option.map_eq_some_iff.1 hx
        rw [hy] at hc
        obtain rfl := Option.some.inj hc
        refine Kd.FK_mono (y.in_ hgr) (fun k hk => ⟨hk.1, fun he => hk.2 ?_⟩)
        have : g = k := by simpa [Value.ownBlock] using he.symm
        exact this.symm
/-- What the sort leaves: the same elements, in order. -/
def NSorted {α : Type} (d : Kd α) (cf : α → α → Int) (e : Nat) (w : World) (base : Nat) (ok : Nat → Prop) (v : Value) (xs : List α) (en : Ending) (w' : World) : Prop :=
  en = .returned (.tuple #[]) ∧ ∃ ys, ys.Perm xs ∧ ys.Pairwise (fun a b => cf a b ≤ 0) ∧ Kd.N d e w' base ok v ys ∧ w.grownBy w' v.ownBlock
theorem swo_of {α β : Type} {c : α → α → Int} (h : OrdC c) (key : β → α) : SWO (ltOf fun x y : β => c (key x) (key y)) where
  irrefl x := decide_eq_false (by show ¬ c (key x) (key x) < 0; have := (h.eq0 (key x) (key x)).2 rfl; omega)
  trans x y z h1 h2 := decide_eq_true (h.tr _ _ _ (of_decide_eq_true h1) (of_decide_eq_true h2))
  ntrans x y z h1 h2 := by
    have h1 : ¬ c (key x) (key y) < 0 := of_decide_eq_false h1
    have h2 : ¬ c (key y) (key z) < 0 := of_decide_eq_false h2
    have a := h.neg (key x) (key y)
    have b := h.neg (key y) (key z)
    have e := h.neg (key x) (key z)
    refine decide_eq_false (show ¬ c (key x) (key z) < 0 from ?_)
    have := h.le_trans (a := key z) (b := key y) (d := key x) (by omega) (by omega)
    omega
theorem N_insK {P : Program} {ρ : Ren} (L : SlLaysF0.n20 P ρ) {α κ : Type} {d : Kd α} (aE : ∀ w, (isAgg (ρ.t 24)).run P w = .ok true w) (zE : ∀ w, (Go.sizeOf (ρ.t 24)).run P w = .ok d.sz w)
    (c : κ → κ → Int) (hc : OrdC c) (key : α → κ) (gf : Nat) (cb : Array Value) (eg : ∀ args w, (callFunc gf args).run P w = .ok (.enter gf args) w)
    {e : Nat} {w : World} {base : Nat} {ok : Nat → Prop} {v : Value} {xs : List α}
    (hcmp : ∀ (W : World) (x y : α) (csx csy : List Value), (∀ k, ok k → k < w.heap.size → v.ownBlock ≠ some k → W.heap[k]? = w.heap[k]?) → d.K W x csx → d.K W y csy → Calls P gf (#[.agg csx.toArray, .agg csy.toArray] ++ cb) W fun en w' => en = .returned (.int .i64 (c (key x) (key y))) ∧ ∃ q os', w' = grow (W.drewN q) os')
    (hsz : 0 < d.sz) (HN : Kd.N d e w base ok v xs) (hne : 0 < xs.length) (hlen : xs.length < 4611686018427387904) :
    Calls P (ρ.f 20) #[v, .int .i64 (0 : Int), .int .i64 xs.length, .func (.func gf) #[] cb] w (NSorted d (fun x y => c (key x) (key y)) e w base ok v xs) := by
  obtain ⟨g, cap, rfl, hbg, hlt, ys, hys, hrest⟩ := N_sortable hsz HN hne
  have hyl : ys.length = xs.length := by rw [← hys]; simp
  letI : Inhabited (Elt d w ok g) := ⟨ys[0]'(by omega)⟩
  obtain ⟨hH, hback⟩ := hrest
  have hS := swo_of hc (fun y : Elt d w ok g => key y.val)
  have h := AnyQ.insertionSortCmpFunc L d.sz aE zE (fun y : Elt d w ok g => y.cs) (fun y => y.len) (fun y => y.one) (fun x y => c (key x.val) (key y.val)) gf cb g 0 cap 0 ys.toArray.size ys.toArray w eg ?_ hH hlt (Nat.zero_le _) (Nat.le_refl _) (by simp; omega)
  · have hsz2 : ys.toArray.size = xs.length := by simp [hyl]
    rw [hsz2] at h
    refine h.mono ?_
    rintro en w' ⟨rfl, n, os, rfl⟩
    have hi := insertionSort_holds hS ys.toArray 0 xs.length (Nat.zero_le _) (by omega)
    generalize insertionSort (ltOf fun x y : Elt d w ok g => c (key x.val) (key y.val)) ys.toArray 0 xs.length = D at hi ⊢
    have hDs : D.size = ys.length := by have := hi.1.1; simpa using this
    obtain ⟨hR, hg⟩ := hback n D os hDs
    refine ⟨rfl, _, ?_, ?_, hR, by simpa [Value.ownBlock] using hg⟩
    · rw [← hys]
      have hp := hi.1
      rw [← hsz2] at hp
      exact (perm_of hp).map _
    · rw [List.pairwise_map]
      refine (sorted_of (by rw [hDs, hyl]; exact hi.2)).imp ?_
      intro a b hab
      have hab : ¬ c (key b.val) (key a.val) < 0 := of_decide_eq_false hab
      have := hc.neg (key b.val) (key a.val)
      show c (key a.val) (key b.val) ≤ 0
      omega
  · intro m os dk hdk x y
    have hg := (hback m dk os (by simpa using hdk)).2
    refine hcmp _ x.val y.val x.cs y.cs (fun k hk hlt hne => hg.block k hlt (fun he => hne (by simp [Value.ownBlock]; exact (Option.some.inj he).symm))) (Kd.FK_now (x.in_ hg)) (Kd.FK_now (y.in_ hg))
theorem flat_one {β : Type} [Inhabited β] (enc : β → Value) (D : Array β) : flatK (fun y => [enc y]) 1 D = D.map enc := by
  apply Array.ext
  · simp
  · intro i h1 h2
    have h3 : i < D.size := by simpa using h2
    have := get_flatK (fun y : β => [enc y]) 1 D i (by omega)
    rw [getElem!_pos (flatK (fun y : β => [enc y]) 1 D) i h1] at this
    rw [this]
    simp [h3, Nat.mod_one]
theorem put_one {β : Type} [Inhabited β] (enc : β → Value) (D : Array β) (c : Array Value) : putCells id 0 (D.map enc) c = putCells enc 0 D c := by
  unfold putCells
  congr 1
  funext k x
  by_cases h : 0 ≤ k ∧ k < 0 + D.size
  · have h' : 0 ≤ k ∧ k < 0 + (D.map enc).size := by simpa using h
    have hk : k < D.size := by omega
    rw [if_pos h, if_pos h']
    simp [hk]
  · have h' : ¬ (0 ≤ k ∧ k < 0 + (D.map enc).size) := by simpa using h
    rw [if_neg h, if_neg h']
theorem world_one {β : Type} [Inhabited β] (enc : β → Value) (w : World) (g n : Nat) (D : Array β) (os : Array Obj) : sortWorld enc w g 0 n D os = sortWorldK (fun y => [enc y]) 1 w g 0 n D os := by
  unfold sortWorld sortWorldK putRowK putRow
  congr 2
  funext c
  rw [flat_one, put_one]
theorem holds_one {β : Type} [Inhabited β] {enc : β → Value} {w : World} {g : Nat} {D : Array β} (h : HoldsK (fun y => [enc y]) 1 w g 0 D) : Holds enc w g 0 D := by
  intro j hj
  have := h j (by rw [size_flatK]; omega)
  rw [flat_one] at this
  simpa [hj] using this
theorem Elt.sole {α : Type} {d : Kd α} {w : World} {ok : Nat → Prop} {g : Nat} (h1 : d.sz = 1) (y : Elt d w ok g) : y.cs = [y.cs[0]!] := by
  have := y.len
  rw [h1] at this
  obtain ⟨v, hv⟩ := List.length_eq_one_iff.1 this
  rw [hv]
  rfl
theorem N_ins1 {P : Program} {ρ : Ren} (L : SlLaysF.n20 P ρ) {α κ : Type} {d : Kd α} (h1 : d.sz = 1)
    (c : κ → κ → Int) (hc : OrdC c) (key : α → κ) (gf : Nat) (cb : Array Value) (eg : ∀ args w, (callFunc gf args).run P w = .ok (.enter gf args) w)
    {e : Nat} {w : World} {base : Nat} {ok : Nat → Prop} {v : Value} {xs : List α}
    (hcmp : ∀ (W : World) (x y : α) (vx vy : Value), (∀ k, ok k → k < w.heap.size → v.ownBlock ≠ some k → W.heap[k]? = w.heap[k]?) → d.K W x [vx] → d.K W y [vy] → Calls P gf (#[vx, vy] ++ cb) W fun en w' => en = .returned (.int .i64 (c (key x) (key y))) ∧ ∃ q os', w' = grow (W.drewN q) os')
    (HN : Kd.N d e w base ok v xs) (hne : 0 < xs.length) (hlen : xs.length < 4611686018427387904) :
    Calls P (ρ.f 20) #[v, .int .i64 (0 : Int), .int .i64 xs.length, .func (.func gf) #[] cb] w (NSorted d (fun x y => c (key x) (key y)) e w base ok v xs) := by
  obtain ⟨g, cap, rfl, hbg, hlt, ys, hys, hrest⟩ := N_sortable (by omega) HN hne
  have hyl : ys.length = xs.length := by rw [← hys]; simp
  letI : Inhabited (Elt d w ok g) := ⟨ys[0]'(by omega)⟩
  obtain ⟨hH, hback⟩ := hrest
  have hS := swo_of hc (fun y : Elt d w ok g => key y.val)
  have hcs : (fun y : Elt d w ok g => y.cs) = fun y => [y.cs[0]!] := by funext y; exact y.sole h1
  rw [hcs] at hH hback
  rw [h1] at hH hback
  have hO : OneCell (fun y : Elt d w ok g => y.cs[0]!) := fun y => y.one _ (by rw [y.sole h1]; simp)
  have h := Any.insertionSortCmpFunc_s L (fun y : Elt d w ok g => y.cs[0]!) (fun x y => c (key x.val) (key y.val)) gf cb g 0 cap 0 ys.toArray.size ys.toArray ys.toArray w w eg ?_ ⟨hO, holds_one hH, hlt⟩ rfl (SW.start (holds_one hH)) (Nat.zero_le _) (Nat.le_refl _) (by simp; omega)
  · have hsz2 : ys.toArray.size = xs.length := by simp [hyl]
    rw [hsz2] at h
    refine h.mono ?_
    rintro en w' ⟨rfl, n, os, rfl⟩
    rw [world_one]
    have hi := insertionSort_holds hS ys.toArray 0 xs.length (Nat.zero_le _) (by omega)
    generalize insertionSort (ltOf fun x y : Elt d w ok g => c (key x.val) (key y.val)) ys.toArray 0 xs.length = D at hi ⊢
    have hDs : D.size = ys.length := by have := hi.1.1; simpa using this
    obtain ⟨hR, hg⟩ := hback n D os hDs
    refine ⟨rfl, _, ?_, ?_, hR, by simpa [Value.ownBlock] using hg⟩
    · rw [← hys]
      have hp := hi.1
      rw [← hsz2] at hp
      exact (perm_of hp).map _
    · rw [List.pairwise_map]
      refine (sorted_of (by rw [hDs, hyl]; exact hi.2)).imp ?_
      intro a b hab
      have hab : ¬ c (key b.val) (key a.val) < 0 := of_decide_eq_false hab
      have := hc.neg (key b.val) (key a.val)
      show c (key a.val) (key b.val) ≤ 0
      omega
  · intro m os dk hdk x y
    rw [world_one]
    have hg := (hback m dk os (by simpa using hdk)).2
    refine hcmp _ x.val y.val _ _ (fun k hk hlt hne => hg.block k hlt (fun he => hne (by simp [Value.ownBlock]; exact (Option.some.inj he).symm))) ?_ ?_
    · rw [← x.sole h1]; exact Kd.FK_now (x.in_ hg)
    · rw [← y.sole h1]; exact Kd.FK_now (y.in_ hg)
end Go.Proofs.YtiamihkfphmohaaGreatDoor.PA

namespace Go.Proofs.YtiamihkfphmohaaGreatDoor.PA
open Go.RowKit Go.Proofs.YtiamihkfphmohaaGreatDoorW.PrintWords Go.Proofs.YtiamihkfphmohaaGreatDoorW.PrintLast Go.Proofs.YtiamihkfphmohaaGreatDoorW.PrintMore
open Go.Sort Go.Shelf Go.Proofs

/-- The rows of a list of rows. -/
def kRow : Kd (List S82) := Kd.slice 82 k82
theorem kRow_one {w : World} {x : List S82} {v : Value} (h : kRow.K w x [v]) : ∃ A c, v = .slice A x.length c ∧ x.length ≤ c ∧ k82.C w A x.length x := by
  obtain ⟨A, c, e, h1, h2⟩ := h
  exact ⟨A, c, by injection e, h1, h2⟩
def RowsSorted (e base : Nat) (ok : Nat → Prop) (v : Value) (xs : List (List S82)) (w : World) (en : Ending) (w' : World) : Prop := NSorted kRow rcmp e w base ok v xs en w'
theorem ent114 : ∀ args w, (callFunc 114 args).run Tryz.prog w = .ok (.enter 114 args) w := enters_of Tryz.func114 (by kernel_rfl) rfl
theorem ins231 {e : Nat} {w : World} {base : Nat} {ok : Nat → Prop} {v : Value} {xs : List (List S82)} (HN : Kd.N kRow e w base ok v xs) (hlen : xs.length < 4611686018427387904) :
    Calls Tryz.prog 231 #[v, .int .i64 (0 : Int), .int .i64 xs.length, .func (.func 114) #[] #[]] w (RowsSorted e base ok v xs w) := by
  by_cases hne : 0 < xs.length
  · refine (N_ins1 Tryz.insRows (d := kRow) rfl rcmp rcmp_ord id 114 #[] ent114 (fun W x y vx vy hW hx hy => ?_) HN hne hlen).mono fun _ _ h => h
    obtain ⟨A1, c1, rfl, _, hx⟩ := kRow_one hx
    obtain ⟨A2, c2, rfl, _, hy⟩ := kRow_one hy
    refine (g189 A1 _ c1 x A2 _ c2 y W hx hy).mono ?_
    rintro en w' ⟨rfl, hg⟩
    exact ⟨rfl, hg.grow⟩
  · obtain rfl : xs = [] := List.eq_nil_of_length_eq_zero (by omega)
    obtain ⟨A, c, rfl⟩ := Kd.N_slice HN
    refine (AnyF.insertionSortCmpFunc_none (P := Tryz.prog) { Tryz.insRows with } A c (.func (.func 114) #[] #[]) w).mono ?_
    rintro e w' ⟨rfl, rfl⟩
    exact ⟨rfl, [], List.Perm.refl _, List.Pairwise.nil, HN, grown_of_below (Below.refl _ _) _⟩
set_option maxHeartbeats 1000000 in
set_option maxRecDepth 100000 in
theorem st199 {e : Nat} {w : World} {base : Nat} {ok : Nat → Prop} {v : Value} {xs : List (List S82)} (HN : Kd.N kRow e w base ok v xs) (hlen : xs.length < 20) :
    Calls Tryz.prog 199 #[v, .int .i64 xs.length, .func (.func 114) #[] #[]] w (RowsSorted e base ok v xs w) := by
  have H := Aside0.mk HN
  clear HN
  have h20 : ¬ (20 : Int) ≤ xs.length := by omega
  have h20' : ¬ (20 : Int) < xs.length := by omega
  go_enter Tryz.func199, Tryz.ntmps199
  go_wp2
  refine wp_loop_rounds 1 ?_
  rw [rounds_succ]
  go_wp2_with fail
  refine (ins231 H.out (by omega)).mono ?_
  rintro en w1 ⟨rfl, ys, hp, hs, hN, hg⟩
  have R := Aside0.mk (And.intro hp (And.intro hs (And.intro hN hg)))
  clear hp hs hN hg
  go_wp2
  refine wp_loop_rounds 1 ?_
  rw [rounds_succ]
  go_wp2
  go_end0
  exact ⟨rfl, ys, R.out.1, R.out.2.1, R.out.2.2.1, R.out.2.2.2⟩
set_option maxHeartbeats 1000000 in
set_option maxRecDepth 100000 in
theorem ss173 {e : Nat} {w : World} {base : Nat} {ok : Nat → Prop} {v : Value} {xs : List (List S82)} (HN : Kd.N kRow e w base ok v xs) (hlen : xs.length < 20) :
    Calls Tryz.prog 173 #[v, .func (.func 114) #[] #[]] w (RowsSorted e base ok v xs w) := by
  obtain ⟨A, c, rfl⟩ := Kd.N_slice HN
  have H := Aside0.mk HN
  clear HN
  go_enter Tryz.func173, Tryz.ntmps173
  go_wp2_with fail
  refine (st199 H.out hlen).mono ?_
  rintro en w1 ⟨rfl, ys, hp, hs, hN, hg⟩
  have R := Aside0.mk (And.intro hp (And.intro hs (And.intro hN hg)))
  clear hp hs hN hg
  go_wp2
  go_end0
  exact ⟨rfl, ys, R.out.1, R.out.2.1, R.out.2.2.1, R.out.2.2.2⟩
end Go.Proofs.YtiamihkfphmohaaGreatDoor.PA

namespace Go.Proofs.YtiamihkfphmohaaGreatDoor.PA
open Go.RowKit Go.Proofs.YtiamihkfphmohaaGreatDoorW.PrintWords Go.Proofs.YtiamihkfphmohaaGreatDoorW.PrintLast Go.Proofs.YtiamihkfphmohaaGreatDoorW.PrintMore

/-- A sorted copy of a list of rows. -/
def SortRes (l : List (List S82)) (w : World) (en : Ending) (w' : World) : Prop :=
  ∃ v ys, en = .returned v ∧ ys.Perm l ∧ ys.Pairwise (fun a b => rcmp a b ≤ 0) ∧ Kd.N kRow 34 w' w.heap.size (fun _ => True) v ys ∧ Below w.heap.size w w'
theorem FK_row {W : World} {b g : Nat} {v : Value} {x : List S82} (h : k82.R 82 W g (fun _ => True) v x) : Kd.FK kRow W (fun k => g ≤ k) x [v] :=
  Kd.FK_mono (Kd.FK_of_M (d := kRow) (base := g) ⟨v, rfl, Kd.R_bound h⟩) (fun _ hk => hk.2.1)
set_option maxHeartbeats 600000 in
set_option maxRecDepth 100000 in
theorem c139 (A : Option Addr) (n c : Nat) (l : List (List S82)) (w : World) (hr : (Kd.slice 82 k82).C w A n l) (hl : l.length < 20) (hrows : ∀ x ∈ l, x.length ≤ 1000000) :
    Calls Tryz.prog 139 #[.slice A n c, .func (.func 114) #[] #[]] w (SortRes l w) := by
  obtain rfl := hr.1
  have HR := Aside0.mk hr
  have HX := Aside0.mk hrows
  clear hr hrows
  obtain ⟨i34, hi, hz0, hz1, hz2⟩ := info_parts info34
  go_enter Tryz.func139, Tryz.ntmps139
  go_wp2_with (at_make; go_must (refine wpList_make_own w rfl _ _ 46 rfl w.heap.size 34 i34 (.slice none 0 0) 1 Tryz.underlying46 hi hz0 hz1 .i64 .i64 _ l.length rfl rfl rfl ?b2 ?b3 ?b4 ?_; (case b2 => (rw [hz2]; omega)); (case b3 => (simp [maxLen]; omega)); (case b4 => exact Nat.le_refl _); intro w0 ho hg))
  clear hi hz0 hz1 hz2
  have HO1 := Aside0.mk (Kd.R_N (R_made (d := kRow) rfl ho))
  have HB1 := Aside0.mk (pw_below_grown (Below.refl w.heap.size w) none (Nat.le_refl _) hg (by intro k hk; cases hk))
  clear ho hg
  have hs1 := HB1.out.size
  go_wp2
  go_loopw [5, 7, 13] (fun v x i wr => ∃ k : Nat, i = .int .i64 k ∧ k ≤ l.length ∧ Aside0 (Kd.N kRow 34 wr w.heap.size (fun _ => True) v (l.take k)) ∧ Aside0 (Below w.heap.size w wr)) (fun _ _ i _ => l.length - (intOf i).toNat)
  case atStart => exact ⟨0, rfl, Nat.zero_le _, HO1, HB1⟩
  case round =>
    clear HO1 HB1 hs1
    obtain ⟨k, rfl, hk', HO, HB⟩ := hrel
    have hHB := HB.out.size
    by_cases h1 : k < l.length
    · have hst : l.take (k + 1) = l.take k ++ [rd_L3 l k] := by
        rw [List.take_succ_eq_append_getElem h1]
        simp [rd_L3, h1]
      have hst := Lib.hid hst
      have hlk : (rd_L3 l k).length ≤ 1000000 := HX.out _ (by simp [rd_L3, h1])
      obtain ⟨xa, A3, c3, rfl, x0, hle, hrow⟩ := at_L3 HR.out k (by omega) (by omega)
      rw [Int.toNat_natCast] at x0
      replace x0 := pw_cell_below HB.out x0
      have hk1 : (0 : Int) ≤ k := by omega
      have hk2 : (k : Int) < l.length := by omega
      go_wp2_with fail
      refine (c248 A3 _ c3 (rd_L3 l k) _ (Kd.C_below hrow HB.out) hlk).mono ?_
      rintro e w1 ⟨v8, rfl, hR8, hb8⟩
      obtain ⟨A8, c8, rfl⟩ := Kd.R_slice hR8
      have HF := Aside0.mk (FK_row (b := 0) hR8)
      have HB2 := Aside0.mk (below_step HB.out hb8)
      have HO2 := Aside0.mk (Kd.N_below HO.out hb8)
      have HL := Aside0.mk (Kd.N_lt HO.out)
      clear hrow hR8 hb8 HB HO x0
      go_wp2_with (at_builtin; refine Kd.N_append kRow (w0 := w) w.heap.size rfl (.tmp 17) (.tmp 20) 46 34 (.slice none 0 0) 24 rfl Tryz.underlying46 info34 rfl (by decide) (by omega) u5 (l.take k) (rd_L3 l k) [.slice A8 (rd_L3 l k).length c8] (fun _ => True) (fun k_ => wr.heap.size ≤ k_) rfl rfl HF.out (fun k_ hk => ⟨trivial, fun e_ => by have := HL.out k_ e_.symm; omega⟩) (fun _ _ => trivial) ?aO ?aB ?aS ?aL ?_; (case aO => exact HO2.out); (case aB => exact HB2.out); (case aS => exact (below_size HB2.out)); (case aL => exact (by rw [List.length_take]; omega)); intro v1 w1 ho hb hg hat; skip)
      exact ⟨⟨k + 1, by go_num, h1, ⟨by rw [hst.out]; exact ho⟩, ⟨hb⟩⟩, by simp [intOf]; omega⟩
    · have hle : l.take k = l := List.take_of_length_le (by omega)
      rw [hle] at HO
      go_wp2_with fail
      refine (ss173 HO.out hl).mono ?_
      rintro en w1 ⟨rfl, ys, hp, hs, hN, hg⟩
      have R := Aside0.mk (And.intro hp (And.intro hs (And.intro hN (HB.out.grown hg hHB (Kd.N_base HO.out)))))
      clear hp hs hN hg
      go_wp2
      go_ret
      exact ⟨_, ys, rfl, R.out.1, R.out.2.1, R.out.2.2.1, R.out.2.2.2⟩
end Go.Proofs.YtiamihkfphmohaaGreatDoor.PA
