import Derived.Shelf.SlSortCmp.QuietGrown
import Derived.Deep.RegionHeld3
import Derived.Lib.Hide
import Derived.WalkLawsBesides
import Derived.WalkSpells
import Derived.IntWalk
import Derived.Deep.RegionWith
import Derived.Test.YtiamihkfphmohaaGreatDoorShelf
import Derived.Test.YtiamihkfphmohaaGreatDoorB2
import Derived.Test.YtiamihkfphmohaaGreatDoorA7
set_option linter.unusedVariables false
set_option linter.unusedSimpArgs false

namespace Go.Proofs.YtiamihkfphmohaaGreatDoor.PA
open Go.RowKit Go.Proofs.YtiamihkfphmohaaGreatDoorW.PrintWords Go.Proofs.YtiamihkfphmohaaGreatDoorW.PrintLast Go.Proofs.YtiamihkfphmohaaGreatDoorW.PrintMore

open Go.Sort
attribute [local irreducible] Go.wpQuiet
/-- The rows with a key. -/
def keyed (cols : List Int) (key : List S82) (rows : List (List S82)) : List (List S82) := rows.filter (fun r => req (pick r cols) key)
theorem take3 {rows : List (List S82)} {i : Nat} (h : i < rows.length) : rows.take (i + 1) = rows.take i ++ [rd_L3 rows i] := by
  rw [List.take_succ_eq_append_getElem h]
  simp [rd_L3, h]
def NumTo (cols : List Int) (key : List S82) (rows : List (List S82)) (i : Nat) (n : Int) : Prop := n = ((keyed cols key (rows.take i)).length : Int)
theorem numTo_zero (cols : List Int) (key : List S82) (rows : List (List S82)) : NumTo cols key rows 0 0 := rfl
theorem numTo_yes {cols : List Int} {key : List S82} {rows : List (List S82)} {i : Nat} {n : Int} (h : NumTo cols key rows i n) (hi : i < rows.length) (hq : rcmp (pick (rd_L3 rows i) cols) key = 0) : NumTo cols key rows (i + 1) (n + 1) := by
  have h2 : req (pick (rd_L3 rows i) cols) key = true := by simp [req, hq]
  unfold NumTo keyed at *
  rw [take3 hi, List.filter_append, List.filter_cons, if_pos h2, h]
  simp
theorem numTo_no {cols : List Int} {key : List S82} {rows : List (List S82)} {i : Nat} {n : Int} (h : NumTo cols key rows i n) (hi : i < rows.length) (hq : ¬ rcmp (pick (rd_L3 rows i) cols) key = 0) : NumTo cols key rows (i + 1) n := by
  have h2 : ¬ req (pick (rd_L3 rows i) cols) key = true := by simp [req, hq]
  unfold NumTo keyed at *
  rw [take3 hi, List.filter_append, List.filter_cons, if_neg h2, h]
  simp
theorem numTo_bound {cols : List Int} {key : List S82} {rows : List (List S82)} {i : Nat} {n : Int} (h : NumTo cols key rows i n) : 0 ≤ n ∧ n ≤ i := by
  have h1 := List.length_filter_le (fun r => req (pick r cols) key) (rows.take i)
  unfold NumTo keyed at h
  rw [List.length_take] at h1
  omega
def ThereTo (row : List S82) (rows : List (List S82)) (i : Nat) (b : Bool) : Prop := b = true ↔ ∃ j : Nat, j < i ∧ rcmp (rd_L3 rows j) row = 0
theorem thereTo_zero (row : List S82) (rows : List (List S82)) : ThereTo row rows 0 false := ⟨(fun h => by cases h), fun ⟨_, h, _⟩ => by omega⟩
theorem thereTo_keep {row : List S82} {rows : List (List S82)} {i : Nat} (h : ThereTo row rows i true) : ThereTo row rows (i + 1) true := by
  obtain ⟨j, hj, hp⟩ := h.1 rfl
  exact ⟨fun _ => ⟨j, by omega, hp⟩, fun _ => rfl⟩
theorem thereTo_new {row : List S82} {rows : List (List S82)} {i : Nat} (h : ThereTo row rows i false) : ThereTo row rows (i + 1) (rcmp (rd_L3 rows i) row == 0) := by
  constructor
  · intro hp
    exact ⟨i, by omega, by simpa using hp⟩
  · rintro ⟨j, hj, hp⟩
    rcases Nat.lt_succ_iff_lt_or_eq.1 hj with h2 | h2
    · exact absurd (h.2 ⟨j, h2, hp⟩) (by simp)
    · subst h2; simp [hp]
theorem there_all {row : List S82} {rows : List (List S82)} {i : Nat} {b : Bool} (h : ThereTo row rows i b) (hi : i = rows.length) (hm : row ∈ rows) : b = true := by
  subst hi
  obtain ⟨j, hj, rfl⟩ := List.getElem_of_mem hm
  exact h.2 ⟨j, hj, by rw [show rd_L3 rows (j : Int) = rows[j] by simp [rd_L3, hj]]; exact (rcmp_ord.eq0 _ _).2 rfl⟩
theorem cnt_keyed {cols : List Int} {key : List S82} {t : Int} (l : List S58) : cnt (perS cols l (encK key)) t = ((keyed cols key (rowsAt l t)).length : Int) := by
  induction l with
  | nil => rfl
  | cons x l ih =>
    have hr : rowsAt (x :: l) t = if pc x.f1 t = true then x.f0 :: rowsAt l t else rowsAt l t := by
      unfold rowsAt
      by_cases hp : pc x.f1 t = true <;> simp [hp]
    rw [perS_cons, hr]
    by_cases he : encK (pick x.f0 cols) = encK key
    · have h2 : req (pick x.f0 cols) key = true := req_iff.2 (encK_inj he)
      rw [if_pos he, cnt_cons, ih]
      by_cases hp : pc x.f1 t = true
      · rw [if_pos hp, if_pos hp]
        unfold keyed
        rw [List.filter_cons, if_pos h2, List.length_cons]
        omega
      · rw [if_neg hp, if_neg hp, Int.zero_add]
    · have h2 : ¬ req (pick x.f0 cols) key = true := fun h => he (by rw [req_iff.1 h])
      rw [if_neg he, ih]
      by_cases hp : pc x.f1 t = true
      · rw [if_pos hp]
        unfold keyed
        rw [List.filter_cons, if_neg h2]
      · rw [if_neg hp]
theorem num_one {cols : List Int} {key row : List S82} {l : List S58} {t : Int} {rows : List (List S82)} {i : Nat} {n : Int} (h : NumTo cols key rows i n) (hi : i = rows.length) (hp : rows.Perm (rowsAt l t)) (hH : HoldsP cols l) (hx : row ∈ rowsAt l t) (hk : pick row cols = key) : n = 1 := by
  subst hi
  unfold NumTo at h
  rw [List.take_length] at h
  have h1 : (keyed cols key rows).length = (keyed cols key (rowsAt l t)).length := (hp.filter _).length_eq
  rw [h1, ← cnt_keyed] at h
  have h2 : ¬ 2 ≤ cnt (perS cols l (encK key)) t := fun hc => holds_twice.1 hH t ⟨_, hc⟩
  have h3 : 0 < (keyed cols key (rowsAt l t)).length := List.length_pos_of_mem (List.mem_filter.2 ⟨hx, req_iff.2 hk⟩)
  rw [h] at *
  rw [cnt_keyed] at *
  omega
theorem life_at {l : List S58} {ys : List (List S82)} {sp : List S50} {t : Int} (hp : ys.Perm (rowsAt l t)) (hs : ∀ t, sc sp t = (decide (0 ≤ t ∧ t < 1099511627776) && sc (l.map S58.f1) t)) : sc sp t = decide (ys ≠ []) := by
  rw [Bool.eq_iff_iff, hs t, Bool.and_eq_true, decide_eq_true_iff, decide_eq_true_iff]
  constructor
  · rintro ⟨_, h2⟩ he
    obtain ⟨p, hp', hpt⟩ := sc_iff.1 h2
    obtain ⟨x, hx, rfl⟩ := List.mem_map.1 hp'
    have : x.f0 ∈ ys := hp.mem_iff.2 (List.mem_map.2 ⟨x, List.mem_filter.2 ⟨hx, hpt⟩, rfl⟩)
    rw [he] at this
    simp at this
  · intro hne
    obtain ⟨r, hr⟩ := List.exists_mem_of_ne_nil _ hne
    obtain ⟨x, hx, hpt, _⟩ := rowsAt_mem (hp.mem_iff.1 hr)
    have := pc_iff.1 hpt
    exact ⟨by omega, sc_iff.2 ⟨x.f1, List.mem_map.2 ⟨x, hx, rfl⟩, hpt⟩⟩
theorem find_row {cols : List Int} {key : List S82} {l : List S58} {ys : List (List S82)} {t : Int} (hp : ys.Perm (rowsAt (withS cols l key) t)) (hne : ys ≠ []) : rd_L3 ys 0 ∈ rowsAt l t ∧ pick (rd_L3 ys 0) cols = key := by
  have h0 : 0 < ys.length := List.length_pos_iff.2 hne
  have hm : rd_L3 ys 0 ∈ ys := by simp [rd_L3, h0]
  obtain ⟨x, hx, hpt, hr⟩ := rowsAt_mem (hp.mem_iff.1 hm)
  have hx' := List.mem_filter.1 hx
  rw [← hr]
  exact ⟨List.mem_map.2 ⟨x, List.mem_filter.2 ⟨hx'.1, hpt⟩, rfl⟩, req_iff.1 hx'.2⟩
end Go.Proofs.YtiamihkfphmohaaGreatDoor.PA

namespace Go.Proofs.YtiamihkfphmohaaGreatDoor.PA
open Go.RowKit Go.Proofs.YtiamihkfphmohaaGreatDoorW.PrintWords Go.Proofs.YtiamihkfphmohaaGreatDoorW.PrintLast Go.Proofs.YtiamihkfphmohaaGreatDoorW.PrintMore

open Go.Sort
attribute [local irreducible] Go.wpQuiet
set_option maxHeartbeats 8000000 in
set_option maxRecDepth 100000 in
/-- UniqueRows returns true. -/
theorem c6 (t : Tbl) (A1 A2 A3 A4 : Option Addr) (c1 c2 c3 c4 : Nat) (l : List S58) (A : Option Addr) (c : Nat) (key : List S82) (at_ : Int) (A5 : Option Addr) (c5 : Nat) (w : World) (hT : TK w t A1 A2 A3 A4 c1 c2 c3 c4) (hI : TIn t) (hL : k58.C w A l.length l) (hF : ∀ x ∈ l, FIn x) (hK : k82.C w A5 key.length key) (hkm : key.length ≤ 9223372036854775807) (hTb : TabOK w) : Calls Tryz.prog 6 #[.agg #[.string t.nm, .slice A1 t.cols.length c1, .slice A2 t.key.length c2, .slice A3 t.fors.length c3, .slice A4 t.chks.length c4], .slice A l.length c, .agg #[.slice A5 key.length c5, .int .i64 at_]] w fun e w' => e = .returned (.bool true) ∧ Below w.heap.size w w' := by
  have mixed := mixedT
  have HT := Aside0.mk hT
  have HI := Lib.hid hI
  have HL := Aside0.mk hL
  have HF := Lib.hid hF
  have HK := Aside0.mk hK
  have HTB := Aside0.mk hTb
  have hsz : (w.alloc (.cells #[.string t.nm, .slice A1 t.cols.length c1, .slice A2 t.key.length c2, .slice A3 t.fors.length c3, .slice A4 t.chks.length c4] 27)).heap.size = w.heap.size + 1 := by simp
  have hpt := blk_alloc (blk_new w (.cells #[.string t.nm, .slice A1 t.cols.length c1, .slice A2 t.key.length c2, .slice A3 t.fors.length c3, .slice A4 t.chks.length c4] 27)) (.cells #[.slice A5 key.length c5, .int .i64 at_] 36)
  have hpk := blk_new (w.alloc (.cells #[.string t.nm, .slice A1 t.cols.length c1, .slice A2 t.key.length c2, .slice A3 t.fors.length c3, .slice A4 t.chks.length c4] 27)) (.cells #[.slice A5 key.length c5, .int .i64 at_] 36)
  rw [hsz] at hpk
  have hbz : Below w.heap.size w ((w.alloc (.cells #[.string t.nm, .slice A1 t.cols.length c1, .slice A2 t.key.length c2, .slice A3 t.fors.length c3, .slice A4 t.chks.length c4] 27)).alloc (.cells #[.slice A5 key.length c5, .int .i64 at_] 36)) := below_alloc (below_alloc (Below.refl _ _) _) _
  clear hT hI hL hF hTb hK hsz
  go_enter Tryz.func6, Tryz.ntmps6
  go_wp2_with fail
  refine (q13 t A1 A2 A3 A4 c1 c2 c3 c4 l A c _ (HT.out.below hbz) HI.out (Kd.C_below HL.out hbz) HF.out).mono ?_
  rintro e w1 ⟨b1, rfl, h1, hb1⟩
  have HB := Aside0.mk (bel2 hb1)
  have HX := Aside0.mk (blk_below hpt hb1)
  have HY := Aside0.mk (blk_below hpk hb1)
  have HP := Lib.hid h1
  clear hpt hpk hb1 h1 hbz
  have s0 : (w1).cell? ⟨w.heap.size + 1, 0, none⟩ = some (.slice A5 key.length c5) := by rw [blk_cell HY.out]; rfl
  have s1 : (w1).cell? ⟨w.heap.size + 1, 1, none⟩ = some (.int .i64 at_) := by rw [blk_cell HY.out]; rfl
  have sl : w.heap.size + 1 < (w1).heap.size := World.block_lt_of_cell? _ _ s0
  cases b1 with
  | false =>
    go_wp2_with fail
    refine (c14 _ (tab_below HTB.out HB.out)).mono ?_
    rintro e w2 ⟨rfl, hb2⟩
    have HB2 := Aside0.mk (bthen HB.out hb2)
    clear hb2
    go_wp2
    go_ret
    exact ⟨rfl, HB2.out⟩
  | true =>
  replace HP := Lib.hid (HP.out rfl)
  have hll : l.length ≤ 16 := by have := HP.out.few.1; omega
  have hkl : t.key.length ≤ 1000000 := by have := HP.out.bel.key; have := HP.out.cols; omega
  have hkl2 : t.key.length ≤ 1000 := by have := HP.out.bel.key; have := HP.out.cols; omega
  by_cases hk6 : 60 < key.length
  · have hk7 : (60 : Int) < key.length := by omega
    go_wp2_with fail
    refine (c14 _ (tab_below HTB.out HB.out)).mono ?_
    rintro e w2 ⟨rfl, hb2⟩
    have HB2 := Aside0.mk (bthen HB.out hb2)
    clear hb2
    go_wp2
    go_ret
    exact ⟨rfl, HB2.out⟩
  have hk7 : ¬ (60 : Int) < key.length := by omega
  have t0 : (w1).cell? ⟨w.heap.size, 0, none⟩ = some (.string t.nm) := by rw [blk_cell HX.out]; rfl
  have t1 : (w1).cell? ⟨w.heap.size, 1, none⟩ = some (.slice A1 t.cols.length c1) := by rw [blk_cell HX.out]; rfl
  have t2 : (w1).cell? ⟨w.heap.size, 2, none⟩ = some (.slice A2 t.key.length c2) := by rw [blk_cell HX.out]; rfl
  have t3 : (w1).cell? ⟨w.heap.size, 3, none⟩ = some (.slice A3 t.fors.length c3) := by rw [blk_cell HX.out]; rfl
  have t4 : (w1).cell? ⟨w.heap.size, 4, none⟩ = some (.slice A4 t.chks.length c4) := by rw [blk_cell HX.out]; rfl
  have tl := World.block_lt_of_cell? _ _ t1
  go_wp2_with fail
  refine (c35 _ _ _ _ _ _ _ t.key _ _ _ l _ _ _ key at_ _ (HT.out.below HB.out).key hkl (Kd.C_below HL.out HB.out) (by omega) (Kd.C_below HK.out HB.out) HP.out.rows.len).mono ?_
  rintro e wr ⟨AR, cR, ys, rfl, hp, hs, hCR, hleR, hb2⟩
  have HYS := Aside0.mk (And.intro hp hs)
  have HBN := Aside0.mk (bthen HB.out hb2)
  have HX2 := Aside0.mk (blk_below HX.out hb2)
  have HY2 := Aside0.mk (blk_below HY.out hb2)
  have HCR := Aside0.mk hCR
  clear t0 t1 t2 t3 t4 tl s0 s1 sl hk7 hk6 hb2 hCR HB HX HY hp hs
  have HB := HBN
  have HX := HX2
  have HY := HY2
  clear HBN HX2 HY2
  have hln : (rd_L3 ys 0).length ≤ 60 := by
    by_cases hy : ys = []
    · rw [hy]; simp [rd_L3]
    · obtain ⟨x, hx, _, hr⟩ := rowsAt_mem (find_row HYS.out.1 hy).1
      rw [← hr]
      exact HP.out.few.2 x hx
  have t0 : (wr).cell? ⟨w.heap.size, 0, none⟩ = some (.string t.nm) := by rw [blk_cell HX.out]; rfl
  have t1 : (wr).cell? ⟨w.heap.size, 1, none⟩ = some (.slice A1 t.cols.length c1) := by rw [blk_cell HX.out]; rfl
  have t2 : (wr).cell? ⟨w.heap.size, 2, none⟩ = some (.slice A2 t.key.length c2) := by rw [blk_cell HX.out]; rfl
  have t3 : (wr).cell? ⟨w.heap.size, 3, none⟩ = some (.slice A3 t.fors.length c3) := by rw [blk_cell HX.out]; rfl
  have t4 : (wr).cell? ⟨w.heap.size, 4, none⟩ = some (.slice A4 t.chks.length c4) := by rw [blk_cell HX.out]; rfl
  have tl := World.block_lt_of_cell? _ _ t1
  have s0 : (wr).cell? ⟨w.heap.size + 1, 0, none⟩ = some (.slice A5 key.length c5) := by rw [blk_cell HY.out]; rfl
  have s1 : (wr).cell? ⟨w.heap.size + 1, 1, none⟩ = some (.int .i64 at_) := by rw [blk_cell HY.out]; rfl
  have sl : w.heap.size + 1 < (wr).heap.size := World.block_lt_of_cell? _ _ s0
  by_cases hy : ys = []
  · have HIS := Lib.hid (show decide (ys ≠ []) = false by simp [hy])
    have hd : decide (ys ≠ []) = false := HIS.out
    have hr0 : (rd_L3 ys 0).length = 0 := by rw [hy]; simp [rd_L3]
    rw [hd]
    clear hd hy
    generalize hrw : rd_L3 ys 0 = row at *
    have HRW := Lib.hid hrw
    clear hrw
    go_wp2_with fail
    go_region_held3 (fun W => Below wr.heap.size wr W ∧ W.cell? ⟨w.heap.size, 0, none⟩ = some (.string t.nm) ∧ W.cell? ⟨w.heap.size, 1, none⟩ = some (.slice A1 t.cols.length c1) ∧ W.cell? ⟨w.heap.size, 2, none⟩ = some (.slice A2 t.key.length c2) ∧ W.cell? ⟨w.heap.size, 3, none⟩ = some (.slice A3 t.fors.length c3) ∧ W.cell? ⟨w.heap.size, 4, none⟩ = some (.slice A4 t.chks.length c4) ∧ W.cell? ⟨w.heap.size + 1, 0, none⟩ = some (.slice A5 key.length c5) ∧ W.cell? ⟨w.heap.size + 1, 1, none⟩ = some (.int .i64 at_))
      (first
        | (go_split_ands; refine ⟨?_, ?_, ?_, ?_, ?_, ?_, ?_, ?_⟩ <;> first | exact bthen (by assumption) hbc | exact pw_cell_below hbc (by assumption))
        | (go_split_ands; refine ⟨?_, ?_, ?_, ?_, ?_, ?_, ?_, ?_⟩ <;> first | exact below_drew (Below.refl _ _) | exact below_alloc (by assumption) _ | exact pw_cell_below (below_drew (Below.refl _ _)) (by assumption) | go_keep))
      (first
        | (go_at_call 24; refine (c39 _ _ _ _ _ _ _ t.key _ _ _ l _ _ _ key _ (HT.out.below (bthen HB.out (And.left (by assumption)))).key hkl (Kd.C_below HL.out (bthen HB.out (And.left (by assumption)))) (by omega) (Kd.C_below HK.out (bthen HB.out (And.left (by assumption))))).mono ?_; rintro e w3 ⟨v3, sp, rfl, hsp1, hsp2, hsp3, hR3, hb3⟩; obtain ⟨A9, c9, rfl⟩ := Kd.R_slice hR3; have HC9 := Aside0.mk (Kd.R_reads' hR3).2.2; have HSP := Lib.hid ((life_at HYS.out.1 hsp2).trans HIS.out); have hbc := hb3; clear hsp1 hsp2 hsp3 hR3)
        | (go_at_call 30; refine (q30 A9 _ c9 sp at_ _ HC9.out).mono ?_; rintro e w4 ⟨rfl, hb4⟩; rw [HSP.out]; have hbc := hb4; have hbf : Below wr.heap.size wr w4 := bthen (And.left (by assumption)) hb4))
    all_goals
      have HB2 := Aside0.mk (bthen HB.out hbf)
      go_wp2_with fail
      refine (c14 _ (tab_below HTB.out HB2.out)).mono ?_
      rintro e w7 ⟨rfl, hb7⟩
      have HB7 := Aside0.mk (bthen HB2.out hb7)
      clear hb7
      go_wp2
      go_ret
      exact ⟨rfl, HB7.out⟩
  · have HIS := Lib.hid (show decide (ys ≠ []) = true by simp [hy])
    have hd : decide (ys ≠ []) = true := HIS.out
    have HRM := Aside0.mk (find_row HYS.out.1 hy)
    rw [hd]
    clear hd hy
    generalize hrw : rd_L3 ys 0 = row at *
    have hrlen : row.length = t.cols.length := by
      obtain ⟨x, hx, _, hr⟩ := rowsAt_mem HRM.out.1
      have := (HP.out.bel.sound x hx).2.1
      rw [← hr, this, kindsT_len]
    have HRW := Lib.hid hrw
    have HRL := Lib.hid hrlen
    clear hrw hrlen
    go_wp2_with fail
    go_region_held3 (fun W => Below wr.heap.size wr W ∧ W.cell? ⟨w.heap.size, 0, none⟩ = some (.string t.nm) ∧ W.cell? ⟨w.heap.size, 1, none⟩ = some (.slice A1 t.cols.length c1) ∧ W.cell? ⟨w.heap.size, 2, none⟩ = some (.slice A2 t.key.length c2) ∧ W.cell? ⟨w.heap.size, 3, none⟩ = some (.slice A3 t.fors.length c3) ∧ W.cell? ⟨w.heap.size, 4, none⟩ = some (.slice A4 t.chks.length c4) ∧ W.cell? ⟨w.heap.size + 1, 0, none⟩ = some (.slice A5 key.length c5) ∧ W.cell? ⟨w.heap.size + 1, 1, none⟩ = some (.int .i64 at_))
      (first
        | (go_split_ands; refine ⟨?_, ?_, ?_, ?_, ?_, ?_, ?_, ?_⟩ <;> first | exact bthen (by assumption) hbc | exact pw_cell_below hbc (by assumption))
        | (go_split_ands; refine ⟨?_, ?_, ?_, ?_, ?_, ?_, ?_, ?_⟩ <;> first | exact below_drew (Below.refl _ _) | exact below_alloc (by assumption) _ | exact pw_cell_below (below_drew (Below.refl _ _)) (by assumption) | go_keep))
      (first
        | (go_at_call 24; refine (c39 _ _ _ _ _ _ _ t.key _ _ _ l _ _ _ key _ (HT.out.below (bthen HB.out (And.left (by assumption)))).key hkl (Kd.C_below HL.out (bthen HB.out (And.left (by assumption)))) (by omega) (Kd.C_below HK.out (bthen HB.out (And.left (by assumption))))).mono ?_; rintro e w3 ⟨v3, sp, rfl, hsp1, hsp2, hsp3, hR3, hb3⟩; obtain ⟨A9, c9, rfl⟩ := Kd.R_slice hR3; have HC9 := Aside0.mk (Kd.R_reads' hR3).2.2; have HSP := Lib.hid ((life_at HYS.out.1 hsp2).trans HIS.out); have hbc := hb3; clear hsp1 hsp2 hsp3 hR3)
        | (go_at_call 30; refine (q30 A9 _ c9 sp at_ _ HC9.out).mono ?_; rintro e w4 ⟨rfl, hb4⟩; rw [HSP.out]; have hbc := hb4; have hbf : Below wr.heap.size wr w4 := bthen (And.left (by assumption)) hb4))
    all_goals
      have HB2 := Aside0.mk (bthen HB.out hbf)
      have HX2 := Aside0.mk (blk_below HX.out hbf)
      have HY2 := Aside0.mk (blk_below HY.out hbf)
      clear t0 t1 t2 t3 t4 tl s0 s1 sl
      have s0 : (w4).cell? ⟨w.heap.size + 1, 0, none⟩ = some (.slice A5 key.length c5) := by rw [blk_cell HY2.out]; rfl
      have s1 : (w4).cell? ⟨w.heap.size + 1, 1, none⟩ = some (.int .i64 at_) := by rw [blk_cell HY2.out]; rfl
      have sl : w.heap.size + 1 < (w4).heap.size := World.block_lt_of_cell? _ _ s0
      go_wp2_with fail
      refine (q28 A _ c l at_ _ (Kd.C_below HL.out HB2.out) (by omega) HP.out.rows.len).mono ?_
      rintro e w7 ⟨A6, c6, rows, rfl, hc6, hp6, hC6, hb7⟩
      have HCR7 := Aside0.mk (Kd.C_below HCR.out (bthen hbf hb7))
      have HB7 := Aside0.mk (bthen HB2.out hb7)
      have HX7 := Aside0.mk (blk_below HX2.out hb7)
      have HY7 := Aside0.mk (blk_below HY2.out hb7)
      have HR6 := Aside0.mk hC6
      have HS6 := Aside0.mk hp6
      have hrows : rows.length ≤ 16 := by rw [hp6.1.length_eq]; have := rowsAt_len l at_; omega
      clear s0 s1 sl hC6 hp6 hb7 hbf HB HX HY HB2 HX2 HY2 HCR
      go_wp2
      go_loopw [10, 11, 12] (fun nv bv iv wr => ∃ (i : Nat) (n : Int) (b : Bool), nv = .int .i64 n ∧ bv = .bool b ∧ iv = .int .i64 i ∧ i ≤ rows.length ∧ Aside0 (Below w.heap.size w wr) ∧ Aside0 (wr.heap[w.heap.size]? = some (.cells #[.string t.nm, .slice A1 t.cols.length c1, .slice A2 t.key.length c2, .slice A3 t.fors.length c3, .slice A4 t.chks.length c4] 27 (0, 0))) ∧ Aside0 (wr.heap[w.heap.size + 1]? = some (.cells #[.slice A5 key.length c5, .int .i64 at_] 36 (0, 0))) ∧ Aside0 (Below w7.heap.size w7 wr) ∧ Aside0 (NumTo t.key key rows i n) ∧ Aside0 (ThereTo row rows i b)) (fun _ _ iv _ => rows.length - (intOf iv).toNat)
      case atStart => exact ⟨0, 0, false, rfl, rfl, rfl, Nat.zero_le _, HB7, HX7, HY7, ⟨Below.refl _ _⟩, ⟨numTo_zero _ _ _⟩, ⟨thereTo_zero _ _⟩⟩
      case round =>
        clear HB7 HX7 HY7
        obtain ⟨i, n, b, rfl, rfl, rfl, hi', HB, HX, HY, HBR, HN, HTH⟩ := hrel
        by_cases h1 : i < rows.length
        · have hi1 : (0 : Int) ≤ i := by omega
          have hi2 : (i : Int) < rows.length := by omega
          have hnb := numTo_bound HN.out
          obtain ⟨xa, A8, c8, exa, x0, hle8, hrow8⟩ := at_L3 (Kd.C_below HR6.out HBR.out) i (by omega) (by omega)
          subst exa
          rw [Int.toNat_natCast] at x0
          have xbl := World.block_lt_of_cell? _ _ x0
          have H8 := Aside0.mk hrow8
          clear hrow8
          have t0 : (wr).cell? ⟨w.heap.size, 0, none⟩ = some (.string t.nm) := by rw [blk_cell HX.out]; rfl
          have t1 : (wr).cell? ⟨w.heap.size, 1, none⟩ = some (.slice A1 t.cols.length c1) := by rw [blk_cell HX.out]; rfl
          have t2 : (wr).cell? ⟨w.heap.size, 2, none⟩ = some (.slice A2 t.key.length c2) := by rw [blk_cell HX.out]; rfl
          have t3 : (wr).cell? ⟨w.heap.size, 3, none⟩ = some (.slice A3 t.fors.length c3) := by rw [blk_cell HX.out]; rfl
          have t4 : (wr).cell? ⟨w.heap.size, 4, none⟩ = some (.slice A4 t.chks.length c4) := by rw [blk_cell HX.out]; rfl
          have tl := World.block_lt_of_cell? _ _ t1
          have s0 : (wr).cell? ⟨w.heap.size + 1, 0, none⟩ = some (.slice A5 key.length c5) := by rw [blk_cell HY.out]; rfl
          have s1 : (wr).cell? ⟨w.heap.size + 1, 1, none⟩ = some (.int .i64 at_) := by rw [blk_cell HY.out]; rfl
          have sl : w.heap.size + 1 < (wr).heap.size := World.block_lt_of_cell? _ _ s0
          go_wp2_with fail
          go_region_held3 (fun W => Below wr.heap.size wr W ∧ W.cell? ⟨w.heap.size, 0, none⟩ = some (.string t.nm) ∧ W.cell? ⟨w.heap.size, 1, none⟩ = some (.slice A1 t.cols.length c1) ∧ W.cell? ⟨w.heap.size, 2, none⟩ = some (.slice A2 t.key.length c2) ∧ W.cell? ⟨w.heap.size, 3, none⟩ = some (.slice A3 t.fors.length c3) ∧ W.cell? ⟨w.heap.size, 4, none⟩ = some (.slice A4 t.chks.length c4) ∧ W.cell? ⟨w.heap.size + 1, 0, none⟩ = some (.slice A5 key.length c5) ∧ W.cell? ⟨w.heap.size + 1, 1, none⟩ = some (.int .i64 at_) ∧ W.cell? (xa.add i) = some (.slice A8 (rd_L3 rows i).length c8))
            (first
              | (go_split_ands; refine ⟨?_, ?_, ?_, ?_, ?_, ?_, ?_, ?_, ?_⟩ <;> first | exact bthen (by assumption) hbc | exact pw_cell_below hbc (by assumption))
              | (go_split_ands; refine ⟨?_, ?_, ?_, ?_, ?_, ?_, ?_, ?_, ?_⟩ <;> first | exact below_drew (Below.refl _ _) | exact below_alloc (by assumption) _ | exact pw_cell_below (below_drew (Below.refl _ _)) (by assumption) | go_keep))
            (first
              | (go_at_call 31; refine (q31 _ _ _ _ _ _ _ t.key A8 _ c8 (rd_L3 rows i) _ (Kd.C_below H8.out (And.left (by assumption))) (HT.out.below (bthen HB.out (And.left (by assumption)))).key hkl).mono ?_; rintro e w5 ⟨v5, rfl, hR5, hb5⟩; obtain ⟨A10, c10, rfl⟩ := Kd.R_slice hR5; have HC10 := Aside0.mk (Kd.R_reads' hR5).2.2; have hbc := hb5; clear hR5)
              | (go_at_call 22; refine (c37 _ _ _ (pick (rd_L3 rows i) t.key) _ _ _ key _ HC10.out (Kd.C_below HK.out (bthen HB.out (And.left (by assumption))))).mono ?_; rintro e w6 ⟨rfl, hb6⟩; have hbc := hb6; have hbf : Below wr.heap.size wr w6 := bthen (And.left (by assumption)) hb6))
          all_goals
            have HB2 := Aside0.mk (bthen HB.out hbf)
            have HX2 := Aside0.mk (blk_below HX.out hbf)
            have HY2 := Aside0.mk (blk_below HY.out hbf)
            have HBR2 := Aside0.mk (bthen HBR.out hbf)
            have x2 := pw_cell_below hbf x0
            have H82 := Aside0.mk (Kd.C_below H8.out hbf)
            have xb2 := World.block_lt_of_cell? _ _ x2
            clear t0 t1 t2 t3 t4 tl s0 s1 sl x0 xbl HB HX HY hbf H8
            by_cases hq : rcmp (pick (rd_L3 rows i) t.key) key = 0
            · have hqz : (rcmp (pick (rd_L3 rows i) t.key) key == 0) = true := by simp [hq]
              have HN2 := Aside0.mk (numTo_yes HN.out h1 hq)
              have HQ := Lib.hid hq
              clear hq
              cases b with
              | true =>
                have HTH2 := Aside0.mk (thereTo_keep HTH.out)
                go_wp2
                exact ⟨⟨i + 1, n + 1, true, by go_num, rfl, by go_num, h1, HB2, HX2, HY2, HBR2, HN2, HTH2⟩, by simp [intOf]; omega⟩
              | false =>
                have HTH2 := Aside0.mk (thereTo_new HTH.out)
                go_wp2_with fail
                refine (c37 _ _ _ (rd_L3 rows i) _ _ _ row _ H82.out (Kd.C_below HCR7.out HBR2.out)).mono ?_
                rintro e w8 ⟨rfl, hb8⟩
                have HB3 := Aside0.mk (bthen HB2.out hb8)
                have HX3 := Aside0.mk (blk_below HX2.out hb8)
                have HY3 := Aside0.mk (blk_below HY2.out hb8)
                have HBR3 := Aside0.mk (bthen HBR2.out hb8)
                clear hb8
                go_wp2
                exact ⟨⟨i + 1, n + 1, _, by go_num, rfl, by go_num, h1, HB3, HX3, HY3, HBR3, HN2, HTH2⟩, by simp [intOf]; omega⟩
            · have hqz : (rcmp (pick (rd_L3 rows i) t.key) key == 0) = false := by simp [hq]
              have HN2 := Aside0.mk (numTo_no HN.out h1 hq)
              have HQ := Lib.hid hq
              clear hq
              cases b with
              | true =>
                have HTH2 := Aside0.mk (thereTo_keep HTH.out)
                go_wp2
                exact ⟨⟨i + 1, n, true, rfl, rfl, by go_num, h1, HB2, HX2, HY2, HBR2, HN2, HTH2⟩, by simp [intOf]; omega⟩
              | false =>
                have HTH2 := Aside0.mk (thereTo_new HTH.out)
                go_wp2_with fail
                refine (c37 _ _ _ (rd_L3 rows i) _ _ _ row _ H82.out (Kd.C_below HCR7.out HBR2.out)).mono ?_
                rintro e w8 ⟨rfl, hb8⟩
                have HB3 := Aside0.mk (bthen HB2.out hb8)
                have HX3 := Aside0.mk (blk_below HX2.out hb8)
                have HY3 := Aside0.mk (blk_below HY2.out hb8)
                have HBR3 := Aside0.mk (bthen HBR2.out hb8)
                clear hb8
                go_wp2
                exact ⟨⟨i + 1, n, _, rfl, rfl, by go_num, h1, HB3, HX3, HY3, HBR3, HN2, HTH2⟩, by simp [intOf]; omega⟩
        · have hi2 : ¬ (i : Int) < rows.length := by omega
          obtain rfl : b = true := there_all HTH.out (by omega) (HS6.out.1.mem_iff.2 HRM.out.1)
          have HKR := Lib.hid (show rcmp (pick row t.key) key = 0 from (rcmp_ord.eq0 _ _).2 HRM.out.2)
          have hrl2 : ((row.length : Int) == (t.cols.length : Int)) = true := by rw [beq_iff_eq, HRL.out]
          have hil : i = rows.length := by omega
          have t0 : (wr).cell? ⟨w.heap.size, 0, none⟩ = some (.string t.nm) := by rw [blk_cell HX.out]; rfl
          have t1 : (wr).cell? ⟨w.heap.size, 1, none⟩ = some (.slice A1 t.cols.length c1) := by rw [blk_cell HX.out]; rfl
          have t2 : (wr).cell? ⟨w.heap.size, 2, none⟩ = some (.slice A2 t.key.length c2) := by rw [blk_cell HX.out]; rfl
          have t3 : (wr).cell? ⟨w.heap.size, 3, none⟩ = some (.slice A3 t.fors.length c3) := by rw [blk_cell HX.out]; rfl
          have t4 : (wr).cell? ⟨w.heap.size, 4, none⟩ = some (.slice A4 t.chks.length c4) := by rw [blk_cell HX.out]; rfl
          have tl := World.block_lt_of_cell? _ _ t1
          have s0 : (wr).cell? ⟨w.heap.size + 1, 0, none⟩ = some (.slice A5 key.length c5) := by rw [blk_cell HY.out]; rfl
          have s1 : (wr).cell? ⟨w.heap.size + 1, 1, none⟩ = some (.int .i64 at_) := by rw [blk_cell HY.out]; rfl
          have sl : w.heap.size + 1 < (wr).heap.size := World.block_lt_of_cell? _ _ s0
          by_cases hH : HoldsP t.key l
          · have HH := Aside0.mk hH
            obtain rfl : n = 1 := num_one HN.out hil HS6.out.1 hH HRM.out.1 HRM.out.2
            clear hH hil
            go_wp2_with fail
            go_region_held3 (fun W => Below wr.heap.size wr W ∧ W.cell? ⟨w.heap.size, 0, none⟩ = some (.string t.nm) ∧ W.cell? ⟨w.heap.size, 1, none⟩ = some (.slice A1 t.cols.length c1) ∧ W.cell? ⟨w.heap.size, 2, none⟩ = some (.slice A2 t.key.length c2) ∧ W.cell? ⟨w.heap.size, 3, none⟩ = some (.slice A3 t.fors.length c3) ∧ W.cell? ⟨w.heap.size, 4, none⟩ = some (.slice A4 t.chks.length c4) ∧ W.cell? ⟨w.heap.size + 1, 0, none⟩ = some (.slice A5 key.length c5) ∧ W.cell? ⟨w.heap.size + 1, 1, none⟩ = some (.int .i64 at_))
              (first
                | (go_split_ands; refine ⟨?_, ?_, ?_, ?_, ?_, ?_, ?_, ?_⟩ <;> first | exact bthen (by assumption) hbc | exact pw_cell_below hbc (by assumption))
                | (go_split_ands; refine ⟨?_, ?_, ?_, ?_, ?_, ?_, ?_, ?_⟩ <;> first | exact below_drew (Below.refl _ _) | exact below_alloc (by assumption) _ | exact pw_cell_below (below_drew (Below.refl _ _)) (by assumption) | go_keep))
              (first
                | (go_at_call 31; refine (q31 _ _ _ _ _ _ _ t.key AR _ cR row _ (Kd.C_below HCR7.out (bthen HBR.out (And.left (by assumption)))) (HT.out.below (bthen HB.out (And.left (by assumption)))).key hkl).mono ?_; rintro e w5 ⟨v5, rfl, hR5, hb5⟩; obtain ⟨A10, c10, rfl⟩ := Kd.R_slice hR5; have HC10 := Aside0.mk (Kd.R_reads' hR5).2.2; have hbc := hb5; clear hR5)
                | (go_at_call 22; refine (c37 _ _ _ (pick row t.key) _ _ _ key _ HC10.out (Kd.C_below HK.out (bthen HB.out (And.left (by assumption))))).mono ?_; rintro e w6 ⟨rfl, hb6⟩; rw [HKR.out]; have hbc := hb6)
                | (go_at_call 15; refine (c30 _ _ _ _ _ _ _ t.key _ _ _ l _ (HT.out.below (bthen HB.out (And.left (by assumption)))).key hkl (Kd.C_below HL.out (bthen HB.out (And.left (by assumption)))) (by omega) (tab_below HTB.out (bthen HB.out (And.left (by assumption)))) (HP.out.rows.keys hkl2)).mono ?_; rintro e w2 ⟨b2, rfl, h2, hb2⟩; obtain rfl : b2 = true := h2.2 HH.out; have hbc := hb2; clear h2)
                | (go_at_call 14; refine (c14 _ (tab_below HTB.out (bthen HB.out (And.left (by assumption))))).mono ?_; rintro e w5 ⟨rfl, hb5⟩; have hbc := hb5; have hbf : Below wr.heap.size wr w5 := bthen (And.left (by assumption)) hb5))
            all_goals
              have HB2 := Aside0.mk (bthen HB.out hbf)
              go_wp2
              go_ret
              exact ⟨rfl, HB2.out⟩
          · have HH := Aside0.mk hH
            have q0 : ∀ W, Below wr.heap.size wr W → W.cell? ⟨w.heap.size, 0, none⟩ = some (.string t.nm) := fun W hW => pw_cell_below hW t0
            have q1 : ∀ W, Below wr.heap.size wr W → W.cell? ⟨w.heap.size, 1, none⟩ = some (.slice A1 t.cols.length c1) := fun W hW => pw_cell_below hW t1
            have q2 : ∀ W, Below wr.heap.size wr W → W.cell? ⟨w.heap.size, 2, none⟩ = some (.slice A2 t.key.length c2) := fun W hW => pw_cell_below hW t2
            have q3 : ∀ W, Below wr.heap.size wr W → W.cell? ⟨w.heap.size, 3, none⟩ = some (.slice A3 t.fors.length c3) := fun W hW => pw_cell_below hW t3
            have q4 : ∀ W, Below wr.heap.size wr W → W.cell? ⟨w.heap.size, 4, none⟩ = some (.slice A4 t.chks.length c4) := fun W hW => pw_cell_below hW t4
            have r0 : ∀ W, Below wr.heap.size wr W → W.cell? ⟨w.heap.size + 1, 0, none⟩ = some (.slice A5 key.length c5) := fun W hW => pw_cell_below hW s0
            have r1 : ∀ W, Below wr.heap.size wr W → W.cell? ⟨w.heap.size + 1, 1, none⟩ = some (.int .i64 at_) := fun W hW => pw_cell_below hW s1
            clear hH hil
            go_wp2_with fail
            clear t0 t1 t2 t3 t4 s0 s1
            have hbd : Below wr.heap.size wr wr.drew := below_drew (Below.refl _ _)
            first
              | (go_region_with (first
                   | (go_at_call 31; refine (q31 _ _ _ _ _ _ _ t.key AR _ cR row _ (Kd.C_below HCR7.out (bthen HBR.out (by first | assumption | exact below_drew (Below.refl _ _)))) (HT.out.below (bthen HB.out (by first | assumption | exact below_drew (Below.refl _ _)))).key hkl).mono ?_; rintro e w5 ⟨v5, rfl, hR5, hb5⟩; obtain ⟨A10, c10, rfl⟩ := Kd.R_slice hR5; have HC10 := Aside0.mk (Kd.R_reads' hR5).2.2; have hx5 : Below wr.heap.size wr w5 := bthen (by first | assumption | exact below_drew (Below.refl _ _)) hb5; clear hR5)
                   | (go_at_call 22; refine (c37 _ _ _ (pick row t.key) _ _ _ key _ HC10.out (Kd.C_below HK.out (bthen HB.out (by first | assumption | exact below_drew (Below.refl _ _))))).mono ?_; rintro e w6 ⟨rfl, hb6⟩; rw [HKR.out]; have hx6 : Below wr.heap.size wr w6 := bthen (by first | assumption | exact below_drew (Below.refl _ _)) hb6)
                   | (go_at_call 15; refine (c30 _ _ _ _ _ _ _ t.key _ _ _ l _ (HT.out.below (bthen HB.out (by first | assumption | exact below_drew (Below.refl _ _)))).key hkl (Kd.C_below HL.out (bthen HB.out (by first | assumption | exact below_drew (Below.refl _ _)))) (by omega) (tab_below HTB.out (bthen HB.out (by first | assumption | exact below_drew (Below.refl _ _)))) (HP.out.rows.keys hkl2)).mono ?_; rintro e w2 ⟨b2, rfl, h2, hb2⟩; obtain rfl : b2 = false := (by cases b2; rfl; exact absurd (h2.1 rfl) HH.out); have hx2 : Below wr.heap.size wr w2 := bthen (by first | assumption | exact below_drew (Below.refl _ _)) hb2; clear h2)
                   | (go_at_call 14; refine (c14 _ (tab_below HTB.out (bthen HB.out (by first | assumption | exact below_drew (Below.refl _ _))))).mono ?_; rintro e w8 ⟨rfl, hb8⟩; have hbf : Below wr.heap.size wr w8 := bthen (by first | assumption | exact below_drew (Below.refl _ _)) hb8)))
              | fail
            all_goals
              have HB2 := Aside0.mk (bthen HB.out hbf)
              go_wp2
              go_ret
              exact ⟨rfl, HB2.out⟩
end Go.Proofs.YtiamihkfphmohaaGreatDoor.PA

namespace Go.Proofs.YtiamihkfphmohaaGreatDoor.PA
open Go.RowKit Go.Proofs.YtiamihkfphmohaaGreatDoorW.PrintWords Go.Proofs.YtiamihkfphmohaaGreatDoorW.PrintLast Go.Proofs.YtiamihkfphmohaaGreatDoorW.PrintMore
open Go.ChangeShapes Go.WideShapes Go.ChangeAt

/-! ### A key with an instant; a row of values -/
section
variable {H : Type} {enc : TypeId × Value → H} {W : World} {v : Value} {d : DataW H} {p : List MemPlace} {base : Nat} {sp : Nat → Bool} {hd : Bool}
theorem co36 : Tryz.prog.cellsOf 36 = 2 := by kernel_rfl
set_option maxRecDepth 100000 in
theorem open_look (h : DataW.Trod enc Tryz.prog W base sp hd 36 v d p) : ∃ (key : List S82) (at_ : Int) (A5 : Option Addr) (c5 : Nat), v = .agg #[.slice A5 key.length c5, .int .i64 at_] ∧ key.length ≤ c5 ∧ k82.C W A5 key.length key ∧ key.length ≤ maxLen := by
  obtain ⟨m, hm⟩ := h
  obtain ⟨m', rfl, hl, hf⟩ := rd_struct Tryz.underlying36 ⟨_, hm⟩
  rw [co36] at hl
  obtain ⟨a, b, hab⟩ := list2 hl
  have h0 := hf 0 { name := "Key", type := 34, offset := 0, embedded := false, tag := "", pkgPath := "", byteOffset := 0 } rfl
  have h1 := hf 1 { name := "At", type := 3, offset := 1, embedded := false, tag := "", pkgPath := "", byteOffset := 24 } rfl
  rw [hab] at h0 h1
  simp only [co34, co3, List.drop_zero, List.drop_succ_cons, List.take_succ_cons, List.take_zero] at h0 h1
  obtain ⟨A, l, c', e0, hlc, hC, hlm, hok⟩ := rd_slice (d := k82) (ok := VIn) Tryz.underlying34 co82 (fun m' _ cs' h' => rd_82 h') h0
  obtain ⟨x, e1, i1⟩ := rd_int h1
  injection e0 with e0
  injection e1 with e1
  subst e0 e1
  exact ⟨l, x, A, c', agg_of hab (by simp), hlc, hC, hlm⟩
end
end Go.Proofs.YtiamihkfphmohaaGreatDoor.PA
