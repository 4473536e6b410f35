import Derived.Shelf.SlSortCmp.QuietGrown
import Derived.Deep.RegionHeld3
import Derived.Lib.Hide
import Derived.WalkLawsBesides
import Derived.WalkSpells
import Derived.IntWalk
import Derived.Test.YtiamihkfphmohaaGreatDoorShelf
import Derived.Test.YtiamihkfphmohaaGreatDoorA7
import Derived.Test.YtiamihkfphmohaaGreatDoorA5
import Derived.Test.YtiamihkfphmohaaGreatDoorA6
set_option linter.unusedVariables false
set_option linter.unusedSimpArgs false

namespace Go.Proofs.YtiamihkfphmohaaGreatDoor.PA
open Go.RowKit Go.Proofs.YtiamihkfphmohaaGreatDoorW.PrintWords Go.Proofs.YtiamihkfphmohaaGreatDoorW.PrintLast Go.Proofs.YtiamihkfphmohaaGreatDoorW.PrintMore

open Go.Sort
attribute [local irreducible] Go.wpQuiet
set_option maxHeartbeats 1000000 in
theorem q105 (A : Option Addr) (n c : Nat) (row : List S82) (i : Int) (w : World) (hr : k82.C w A n row) :
    Calls Tryz.prog 105 #[.slice A n c, .int .i64 i] w fun e w' => e = .returned (.agg #[.int .i64 (atV row i).f0, .int .i64 (atV row i).f1, .string (atV row i).f2]) ∧ Below w.heap.size w w' := by
  obtain rfl := hr.1
  have hm := hr.2.1
  have HR := Aside0.mk hr
  clear hr
  go_enter Tryz.func105, Tryz.ntmps105
  by_cases h0 : i < 0
  · have hat : atV row i = z82 := if_neg (by omega)
    rw [hat]
    go_wp2_with fail
    refine (q141 _).mono ?_
    rintro e w1 ⟨rfl, hb1⟩
    obtain ⟨hc, hf⟩ := bcell hb1
    have hz0 : w.heap.size < w1.heap.size := by have := hb1.size; simp at this; omega
    go_wp2
    have hbk := blk_below (blk_new w _) hb1
    refine bodyPost_ret (results_cell_row rfl _ _ w.heap.size 82 #[.int .i64 0, .int .i64 0, .string ⟨#[]⟩] (0, 0) _ rfl (blk_put (blk_put (blk_put hbk 0 _ rfl) 1 _ rfl) 2 _ rfl) Tryz.underlying82 rfl (by kernel_rfl)) rfl ?_
    exact ⟨rfl, below_set (below_set (below_set (bel1 hb1) (Nat.le_refl _)) (Nat.le_refl _)) (Nat.le_refl _)⟩
  · have h1 : 0 ≤ i := by omega
    by_cases h2 : i < row.length
    · have hat : atV row i = rd_T82 row i := if_pos ⟨h1, h2⟩
      rw [hat]
      obtain ⟨xa, rfl, x0, x1, x2⟩ := at_T82 HR.out i h1 h2
      have xb := World.block_lt_of_cell? _ _ x0
      go_wp2
      refine bodyPost_ret (results_cell_row rfl _ _ w.heap.size 82 #[.int .i64 (rd_T82 row i).f0, .int .i64 (rd_T82 row i).f1, .string (rd_T82 row i).f2] (0, 0) _ rfl (hd_alloc_eq rfl) Tryz.underlying82 rfl (by kernel_rfl)) rfl ?_
      exact ⟨rfl, below_alloc (Below.refl _ _) _⟩
    · have hat : atV row i = z82 := if_neg (by omega)
      rw [hat]
      go_wp2_with fail
      refine (q141 _).mono ?_
      rintro e w1 ⟨rfl, hb1⟩
      obtain ⟨hc, hf⟩ := bcell hb1
      have hz0 : w.heap.size < w1.heap.size := by have := hb1.size; simp at this; omega
      go_wp2
      have hbk := blk_below (blk_new w _) hb1
      refine bodyPost_ret (results_cell_row rfl _ _ w.heap.size 82 #[.int .i64 0, .int .i64 0, .string ⟨#[]⟩] (0, 0) _ rfl (blk_put (blk_put (blk_put hbk 0 _ rfl) 1 _ rfl) 2 _ rfl) Tryz.underlying82 rfl (by kernel_rfl)) rfl ?_
      exact ⟨rfl, below_set (below_set (below_set (bel1 hb1) (Nat.le_refl _)) (Nat.le_refl _)) (Nat.le_refl _)⟩
theorem C_none {α : Type} (d : Kd α) (w : World) : d.C w none 0 [] := Kd.C_nil _ _
set_option maxHeartbeats 2000000 in
set_option maxRecDepth 100000 in
theorem q68 (A : Option Addr) (n c : Nat) (row : List S82) (A2 : Option Addr) (n2 c2 : Nat) (l : List Int) (w : World) (hr : k82.C w A n row) (hr2 : (Kd.int .i64).C w A2 n2 l) (hl : l.length ≤ 1000000) :
    Calls Tryz.prog 68 #[.slice A n c, .slice A2 n2 c2] w (RowRes (pick row l) w) := by
  obtain rfl := hr.1
  obtain rfl := hr2.1
  have HR := Aside0.mk hr
  have HR2 := Aside0.mk hr2
  clear hr hr2
  go_enter Tryz.func68, Tryz.ntmps68
  have HO1 := Aside0.mk (R_made (d := k82) (e := 82) (size := 3) (w := w.alloc (.cells #[] 82)) (base := w.heap.size) (v := .slice (some ⟨w.heap.size, 0, none⟩) 0 0) rfl (by have h := World.ownsRow_lit (base := w.heap.size) (e := 82) (size := 3) w #[] 0 (Nat.le_refl _) (by simp [maxLen]) (by simp); simpa using h))
  have HB1 := Aside0.mk (below_alloc (Below.refl w.heap.size w) (.cells #[] 82))
  have hs1 := HB1.out.size
  go_wp2
  go_loopw [5, 6] (fun v i wr => ∃ k : Nat, i = .int .i64 k ∧ k ≤ l.length ∧ Aside0 (k82.R 82 wr w.heap.size (fun _ => True) v (pick row (l.take k))) ∧ Aside0 (Below w.heap.size w wr)) (fun _ i _ => l.length - (intOf i).toNat)
  case atStart => exact ⟨0, rfl, Nat.zero_le _, HO1, HB1⟩
  case round =>
    clear HO1 HB1 hs1
    obtain ⟨k, rfl, hk', HO, HB⟩ := hrel
    have hHB := HB.out.size
    by_cases h1 : k < l.length
    · have hst : pick row (l.take (k + 1)) = pick row (l.take k) ++ [atV row (rd l k)] := by
        rw [take_step h1, pick, List.map_append]
        simp [pick, Go.Proofs.YtiamihkfphmohaaGreatDoorW.PrintWords.rd, h1]
      have hst := Lib.hid hst
      obtain ⟨xa, rfl, x0⟩ := Kd.at_int HR2.out k (by omega) (by omega)
      rw [Int.toNat_natCast] at x0
      replace x0 := pw_cell_below HB.out x0
      have hk1 : (0 : Int) ≤ k := by omega
      have hk2 : (k : Int) < l.length := by omega
      go_wp2_with fail
      refine (q105 _ _ _ row _ _ (Kd.C_below HR.out HB.out)).mono ?_
      rintro e w1 ⟨rfl, hb1⟩
      go_wp2_with (at_builtin; refine Kd.R_append k82 (w0 := w) w.heap.size rfl (.tmp 14) (.tmp 21) 34 82 (.agg #[(.int .i64 0), (.int .i64 0), (.string ⟨#[]⟩)]) 32 rfl Tryz.underlying34 info82 rfl (by decide) (by omega) u5 (pick row (l.take k)) (atV row (rd l k)) [.int .i64 (atV row (rd l k)).f0, .int .i64 (atV row (rd l k)).f1, .string (atV row (rd l k)).f2] (fun _ => True) (fun _ => False) rfl rfl (k82_mkM _ _ _ (atV row (rd l k))) (fun _ hk => hk.elim) (fun _ _ => trivial) ?aO ?aB ?aS ?aL ?_; (case aO => exact (Kd.R_below HO.out hb1)); (case aB => exact (below_step HB.out hb1)); (case aS => exact (below_size (below_step HB.out hb1))); (case aL => exact (by rw [pick_len, List.length_take]; omega)); intro v1 w1 ho hb hg hat; skip)
      exact ⟨⟨k + 1, by go_num, h1, ⟨by rw [hst.out]; exact ho⟩, ⟨hb⟩⟩, by simp [intOf]; omega⟩
    · go_wp2
      go_ret
      exact ⟨_, rfl, by rw [List.take_of_length_le (by omega)] at HO; exact HO.out, HB.out⟩

set_option maxHeartbeats 1000000 in
theorem q31 (nm : ByteArray) (vc vf vk : Value) (A2 : Option Addr) (n2 c2 : Nat) (l : List Int) (A : Option Addr) (n c : Nat) (row : List S82) (w : World) (hr : k82.C w A n row) (hr2 : (Kd.int .i64).C w A2 n2 l) (hl : l.length ≤ 1000000) :
    Calls Tryz.prog 31 #[.agg #[.string nm, vc, .slice A2 n2 c2, vf, vk], .slice A n c] w (RowRes (pick row l) w) := by
  obtain rfl := hr.1
  obtain rfl := hr2.1
  have HR := Aside0.mk hr
  have HR2 := Aside0.mk hr2
  clear hr hr2
  go_enter Tryz.func31, Tryz.ntmps31
  go_wp2_with fail
  refine (q68 _ _ _ row _ _ _ l _ (Kd.C_below HR.out (below_alloc (Below.refl _ _) _)) (Kd.C_below HR2.out (below_alloc (Below.refl _ _) _)) hl).mono ?_
  rintro e w1 ⟨v, rfl, hR, hB⟩
  go_wp2
  go_ret
  exact ⟨v, rfl, Kd.R_lower hR (by simp), bel1 hB⟩

theorem sc_step {l : List S50} {t : Int} {k : Nat} (h : k < l.length) : sc (l.take (k + 1)) t = (sc (l.take k) t || pc (rd_T50 l k) t) := by
  rw [take_step h, sc_append]
  simp [sc, rd_T50, h]
theorem sc_of_take {l : List S50} {t : Int} {k : Nat} (h : k < l.length) (hp : pc (rd_T50 l k) t = true) : sc l t = true := by
  rw [sc_iff]
  exact ⟨_, by simp [rd_T50, h], hp⟩
set_option maxHeartbeats 1000000 in
theorem q30 (A : Option Addr) (n c : Nat) (l : List S50) (t : Int) (w : World) (hr : k50.C w A n l) :
    Calls Tryz.prog 30 #[.slice A n c, .int .i64 t] w fun e w' => e = .returned (.bool (sc l t)) ∧ Below w.heap.size w w' := by
  obtain rfl := hr.1
  have hm := hr.2.1
  have HR := Aside0.mk hr
  clear hr
  go_enter Tryz.func30, Tryz.ntmps30
  go_wp2
  go_loopw [5] (fun i wr => ∃ k : Nat, i = .int .i64 k ∧ k ≤ l.length ∧ Aside0 (sc (l.take k) t = false) ∧ Aside0 (Below w.heap.size w wr)) (fun i _ => l.length - (intOf i).toNat)
  case atStart => exact ⟨0, rfl, Nat.zero_le _, ⟨rfl⟩, ⟨Below.refl _ _⟩⟩
  case round =>
    obtain ⟨k, rfl, hk', HS, HB⟩ := hrel
    by_cases h1 : k < l.length
    · have hk1 : (0 : Int) ≤ k := by omega
      have hk2 : (k : Int) < l.length := by omega
      obtain ⟨xa, rfl, x0, x1⟩ := at_T50 HR.out k (by omega) (by omega)
      rw [Int.toNat_natCast] at x0 x1
      replace x0 := pw_cell_below HB.out x0
      replace x1 := pw_cell_below HB.out x1
      go_wp2_with fail
      refine (c44 _ _ _ _).mono ?_
      rintro e w1 ⟨rfl, hb1⟩
      have HB1 := Aside0.mk (bthen HB.out hb1)
      have ep : (⟨(rd_T50 l k).f0, (rd_T50 l k).f1⟩ : S50) = rd_T50 l k := rfl
      rw [ep]
      cases hp : pc (rd_T50 l k) t
      · have HP := Lib.hid hp
        clear hp
        go_wp2
        exact ⟨⟨k + 1, by go_num, h1, ⟨by rw [sc_step h1, HS.out, HP.out]; rfl⟩, HB1⟩, by simp [intOf]; omega⟩
      · have HP := Lib.hid (sc_of_take h1 hp)
        clear hp
        go_wp2
        go_ret
        exact ⟨rb HP.out.symm, HB1.out⟩
    · have HS' := Lib.hid (show sc l t = false from by have := HS.out; rw [List.take_of_length_le (by omega)] at this; exact this)
      go_wp2
      go_ret
      exact ⟨rb HS'.out.symm, HB.out⟩

set_option maxHeartbeats 1000000 in
theorem q174 (A1 : Option Addr) (n1 c1 : Nat) (l1 : List S82) (A2 : Option Addr) (n2 c2 : Nat) (l2 : List S82) (w : World) (hr1 : k82.C w A1 n1 l1) (hr2 : k82.C w A2 n2 l2) :
    Calls Tryz.prog 174 #[.slice A1 n1 c1, .slice A2 n2 c2, .slice none 0 0] w fun e w' => e = .returned (.bool (decide (rcmp l1 l2 < 0))) ∧ Below w.heap.size w w' := by
  have HR1 := Aside0.mk hr1
  have HR2 := Aside0.mk hr2
  clear hr1 hr2
  go_enter Tryz.func174, Tryz.ntmps174
  go_wp2
  go_loopw [7] (fun i wr => i = .int .i64 0 ∧ wr = w) (fun _ _ => 0)
  case atStart => exact ⟨rfl, rfl⟩
  case round =>
    obtain ⟨rfl, rfl⟩ := hrel
    go_wp2_with fail
    refine (c37 _ _ _ l1 _ _ _ l2 _ HR1.out HR2.out).mono ?_
    rintro e w1 ⟨rfl, hb1⟩
    have HB1 := Aside0.mk hb1
    clear hb1
    go_wp2
    go_ret
    exact ⟨rfl, HB1.out⟩
end Go.Proofs.YtiamihkfphmohaaGreatDoor.PA

namespace Go.Proofs.YtiamihkfphmohaaGreatDoor.PA
open Go.RowKit Go.Proofs.YtiamihkfphmohaaGreatDoorW.PrintWords Go.Proofs.YtiamihkfphmohaaGreatDoorW.PrintLast Go.Proofs.YtiamihkfphmohaaGreatDoorW.PrintMore

/-! ### Merging -/
/-- Two lists of rows as one: the second list's row goes first only where it is less. -/
def mrg : List (List S82) → List (List S82) → List (List S82)
  | [], b => b
  | x :: a, [] => x :: a
  | x :: a, y :: b => if rcmp y x < 0 then y :: mrg (x :: a) b else x :: mrg a (y :: b)
termination_by a b => a.length + b.length
theorem mrg_nil (b : List (List S82)) : mrg [] b = b := by simp [mrg]
theorem mrg_lt {x y : List S82} {a b : List (List S82)} (h : rcmp y x < 0) : mrg (x :: a) (y :: b) = y :: mrg (x :: a) b := by rw [mrg, if_pos h]
theorem mrg_ge {x y : List S82} {a b : List (List S82)} (h : ¬ rcmp y x < 0) : mrg (x :: a) (y :: b) = x :: mrg a (y :: b) := by rw [mrg, if_neg h]
theorem mrg_nil_right (a : List (List S82)) : mrg a [] = a := by cases a <;> simp [mrg]
theorem mrg_perm (a b : List (List S82)) : (mrg a b).Perm (a ++ b) := by
  fun_induction mrg a b with
  | case1 b => exact List.Perm.refl _
  | case2 x a => simp
  | case3 x a y b h ih =>
    refine (ih.cons y).trans ?_
    exact List.perm_middle.symm
  | case4 x a y b h ih => exact ih.cons x
theorem mrg_sorted (a b : List (List S82)) (ha : a.Pairwise (fun x y => rcmp x y ≤ 0)) (hb : b.Pairwise (fun x y => rcmp x y ≤ 0)) : (mrg a b).Pairwise (fun x y => rcmp x y ≤ 0) := by
  fun_induction mrg a b with
  | case1 b => exact hb
  | case2 x a => exact ha
  | case3 x a y b h ih =>
    rw [List.pairwise_cons] at hb
    refine List.pairwise_cons.2 ⟨fun z hz => ?_, ih ha hb.2⟩
    have hm := (mrg_perm (x :: a) b).mem_iff.1 hz
    rcases List.mem_append.1 hm with hm | hm
    · rcases List.mem_cons.1 hm with rfl | hm
      · omega
      · exact rcmp_ord.le_trans (by omega) ((List.pairwise_cons.1 ha).1 z hm)
    · exact hb.1 z hm
  | case4 x a y b h ih =>
    rw [List.pairwise_cons] at ha
    refine List.pairwise_cons.2 ⟨fun z hz => ?_, ih ha.2 hb⟩
    have hm := (mrg_perm a (y :: b)).mem_iff.1 hz
    have hxy : rcmp x y ≤ 0 := by have := rcmp_ord.neg y x; omega
    rcases List.mem_append.1 hm with hm | hm
    · exact ha.1 z hm
    · rcases List.mem_cons.1 hm with rfl | hm
      · exact hxy
      · exact rcmp_ord.le_trans hxy ((List.pairwise_cons.1 hb).1 z hm)
end Go.Proofs.YtiamihkfphmohaaGreatDoor.PA

namespace Go.Proofs.YtiamihkfphmohaaGreatDoor.PA
open Go.RowKit Go.Proofs.YtiamihkfphmohaaGreatDoorW.PrintWords Go.Proofs.YtiamihkfphmohaaGreatDoorW.PrintLast Go.Proofs.YtiamihkfphmohaaGreatDoorW.PrintMore

open Go.Sort
attribute [local irreducible] Go.wpQuiet
/-- Rows that may be read: the call's result. -/
def RowsRes (P : List (List S82) → Prop) (w : World) (e : Ending) (w' : World) : Prop := ∃ (A : Option Addr) (c : Nat) (ys : List (List S82)), e = .returned (.slice A ys.length c) ∧ ys.length ≤ c ∧ P ys ∧ (Kd.slice 82 k82).C w' A ys.length ys ∧ Below w.heap.size w w'
theorem rows_mk {P : List (List S82) → Prop} {w w' : World} {e : Ending} {A : Option Addr} {c : Nat} {ys : List (List S82)} (he : e = .returned (.slice A ys.length c)) (hc : ys.length ≤ c) (hp : P ys) (hC : (Kd.slice 82 k82).C w' A ys.length ys) (hb : Below w.heap.size w w') : RowsRes P w e w' := ⟨A, c, ys, he, hc, hp, hC, hb⟩
theorem drop_cons3 {a : List (List S82)} {i : Nat} (h : i < a.length) : a.drop i = rd_L3 a i :: a.drop (i + 1) := by
  rw [List.drop_eq_getElem_cons h]
  simp [rd_L3, h]
set_option maxHeartbeats 4000000 in
set_option maxRecDepth 100000 in
theorem q140 (A1 : Option Addr) (c1 : Nat) (a : List (List S82)) (A2 : Option Addr) (c2 : Nat) (b : List (List S82)) (w : World) (ha : (Kd.slice 82 k82).C w A1 a.length a) (hb : (Kd.slice 82 k82).C w A2 b.length b) (hla : a.length ≤ 1000000) (hlb : b.length ≤ 1000000) :
    Calls Tryz.prog 140 #[.slice A1 a.length c1, .slice A2 b.length c2, .slice none 0 0] w (RowsRes (· = mrg a b) w) := by
  have mixed := mixedT
  have H1 := Aside0.mk ha
  have H2 := Aside0.mk hb
  clear ha hb
  go_enter Tryz.func140, Tryz.ntmps140
  have HO1 := Aside0.mk (Kd.R_N (R_made (d := kRow) (e := 34) (size := 1) (w := w.alloc (.cells #[] 34)) (base := w.heap.size) (v := .slice (some ⟨w.heap.size, 0, none⟩) 0 0) rfl (by have h := World.ownsRow_lit (base := w.heap.size) (e := 34) (size := 1) w #[] 0 (Nat.le_refl _) (by simp [maxLen]) (by simp); simpa using h)))
  have HB1 := Aside0.mk (below_alloc (Below.refl w.heap.size w) (.cells #[] 34))
  go_wp2
  go_loopw [7, 8, 9] (fun v iv kv wr => ∃ (i k : Nat) (ms : List (List S82)), iv = .int .i64 i ∧ kv = .int .i64 k ∧ i ≤ a.length ∧ k ≤ b.length ∧ Aside0 (ms ++ mrg (a.drop i) (b.drop k) = mrg a b) ∧ Aside0 (ms.length ≤ 2000000) ∧ Aside0 (Below w.heap.size w wr) ∧ Aside0 (Kd.N kRow 34 wr w.heap.size (fun _ => True) v ms)) (fun _ iv kv _ => a.length + b.length - ((intOf iv).toNat + (intOf kv).toNat))
  case atStart => exact ⟨0, 0, [], rfl, rfl, Nat.zero_le _, Nat.zero_le _, ⟨rfl⟩, ⟨Nat.zero_le _⟩, HB1, HO1⟩
  case round =>
    clear HO1 HB1
    obtain ⟨i, k, ms, rfl, rfl, hi', hk', HM, _, HB, HO⟩ := hrel
    have hml : ms.length ≤ 2000000 := by
      have h := congrArg List.length HM.out
      rw [List.length_append, (mrg_perm a b).length_eq, List.length_append] at h
      omega
    have hms : ms.length + (a.length - i) + (b.length - k) = a.length + b.length := by
      have h := congrArg List.length HM.out
      rw [List.length_append, (mrg_perm a b).length_eq, (mrg_perm _ _).length_eq, List.length_append, List.length_append, List.length_drop, List.length_drop] at h
      omega
    have HML := Lib.hid hml
    have HMS := Lib.hid hms
    clear hml hms
    by_cases h1 : i < a.length
    · have hi1 : (0 : Int) ≤ i := by omega
      have hi2 : (i : Int) < a.length := by omega
      have hi3 : ((i : Int) == (a.length : Int)) = false := by rw [beq_eq_false_iff_ne]; omega
      obtain ⟨xa, A3, c3, rfl, x0, hle3, hrow3⟩ := at_L3 H1.out i (by omega) (by omega)
      rw [Int.toNat_natCast] at x0
      replace x0 := pw_cell_below HB.out x0
      have xbl := World.block_lt_of_cell? _ _ x0
      have HC3 := Aside0.mk hrow3
      clear hrow3
      by_cases h2 : k < b.length
      · have hk1 : (0 : Int) ≤ k := by omega
        have hk2 : (k : Int) < b.length := by omega
        obtain ⟨ya, A4, c4, rfl, y0, hle4, hrow4⟩ := at_L3 H2.out k (by omega) (by omega)
        rw [Int.toNat_natCast] at y0
        replace y0 := pw_cell_below HB.out y0
        have ybl := World.block_lt_of_cell? _ _ y0
        have HC4 := Aside0.mk hrow4
        clear hrow4
        go_wp2_with fail
        go_region_held3 (fun W => Below wr.heap.size wr W ∧ W.cell? (xa.add i) = some (.slice A3 (rd_L3 a i).length c3) ∧ W.cell? (ya.add k) = some (.slice A4 (rd_L3 b k).length c4))
          (first
            | (go_split_ands; refine ⟨?_, ?_, ?_⟩ <;> first | exact bthen (by assumption) hbc | exact pw_cell_below hbc (by assumption))
            | (go_split_ands; refine ⟨?_, ?_, ?_⟩ <;> first | exact below_drew (Below.refl _ _) | exact below_alloc (by assumption) _ | exact pw_cell_below (below_drew (Below.refl _ _)) (by assumption) | go_keep))
          (first
            | (go_at_call 174; refine (q174 _ _ _ (rd_L3 b k) _ _ _ (rd_L3 a i) _ (Kd.C_below (Kd.C_below HC4.out HB.out) (And.left (by assumption))) (Kd.C_below (Kd.C_below HC3.out HB.out) (And.left (by assumption)))).mono ?_; rintro e w2 ⟨rfl, hb2⟩; have hbc := hb2; have hbf : Below wr.heap.size wr w2 := bthen (And.left (by assumption)) hb2))
        all_goals
          have HB2 := Aside0.mk (bthen HB.out hbf)
          have HO2 := Aside0.mk (Kd.N_below HO.out hbf)
          have x2 := pw_cell_below hbf x0
          have y2 := pw_cell_below hbf y0
          have xb2 := World.block_lt_of_cell? _ _ x2
          have yb2 := World.block_lt_of_cell? _ _ y2
          clear x0 y0 xbl ybl HO HB hbf
          by_cases hq : rcmp (rd_L3 b k) (rd_L3 a i) < 0
          · have HQ := Lib.hid hq
            have HF := Aside0.mk (FK_came hle4 (Kd.F_below (Kd.C_F k82_heap HC4.out) HB2.out))
            go_wp2_with (at_builtin; refine Kd.N_append kRow (w0 := w) w.heap.size rfl (.tmp 43) (.tmp 48) 46 34 (.slice none 0 0) 24 rfl Tryz.underlying46 info34 rfl (by decide) (by omega) u7 ms (rd_L3 b k) [.slice A4 (rd_L3 b k).length c4] (fun _ => True) (fun k_ => k_ < w.heap.size) rfl rfl HF.out (fun k_ hk => ⟨trivial, fun e_ => by have := Kd.N_base HO2.out k_ e_.symm; omega⟩) (fun _ _ => trivial) ?aO ?aB ?aS ?aL ?_; (case aO => exact HO2.out); (case aB => exact HB2.out); (case aS => exact (below_size HB2.out)); (case aL => exact (by have := HML.out; omega)); intro v1 w1 ho hb hg hat; skip)
            exact ⟨⟨i, k + 1, ms ++ [rd_L3 b k], rfl, by go_num, hi', h2, ⟨by rw [List.append_assoc, List.singleton_append, ← HM.out, drop_cons3 h1, drop_cons3 h2, mrg_lt HQ.out]⟩, ⟨by rw [List.length_append, List.length_singleton]; have := HMS.out; omega⟩, ⟨hb⟩, ⟨ho⟩⟩, by simp [intOf]; omega⟩
          · have HQ := Lib.hid hq
            have HF := Aside0.mk (FK_came hle3 (Kd.F_below (Kd.C_F k82_heap HC3.out) HB2.out))
            go_wp2_with (at_builtin; refine Kd.N_append kRow (w0 := w) w.heap.size rfl (.tmp 52) (.tmp 57) 46 34 (.slice none 0 0) 24 rfl Tryz.underlying46 info34 rfl (by decide) (by omega) u7 ms (rd_L3 a i) [.slice A3 (rd_L3 a i).length c3] (fun _ => True) (fun k_ => k_ < w.heap.size) rfl rfl HF.out (fun k_ hk => ⟨trivial, fun e_ => by have := Kd.N_base HO2.out k_ e_.symm; omega⟩) (fun _ _ => trivial) ?aO ?aB ?aS ?aL ?_; (case aO => exact HO2.out); (case aB => exact HB2.out); (case aS => exact (below_size HB2.out)); (case aL => exact (by have := HML.out; omega)); intro v1 w1 ho hb hg hat; skip)
            exact ⟨⟨i + 1, k, ms ++ [rd_L3 a i], by go_num, rfl, h1, hk', ⟨by rw [List.append_assoc, List.singleton_append, ← HM.out, drop_cons3 h1, drop_cons3 h2, mrg_ge HQ.out]⟩, ⟨by rw [List.length_append, List.length_singleton]; have := HMS.out; omega⟩, ⟨hb⟩, ⟨ho⟩⟩, by simp [intOf]; omega⟩
      · have hkb : k = b.length := by omega
        have hk1 : ¬ (k : Int) < b.length := by omega
        go_wp2_with fail
        have gx := cell_grown xbl x0
        clear x0
        go_quiet_grown (fail)
        have hbg := below_gr wr nq osq
        have HB2 := Aside0.mk (bthen HB.out hbg)
        have HO2 := Aside0.mk (Kd.N_below HO.out hbg)
        have x2 := gx nq osq
        clear gx hbg HO HB xbl
        generalize grow (wr.drewN nq) osq = w2 at *
        have xb2 := World.block_lt_of_cell? _ _ x2
        have HF := Aside0.mk (FK_came hle3 (Kd.F_below (Kd.C_F k82_heap HC3.out) HB2.out))
        go_wp2_with (at_builtin; refine Kd.N_append kRow (w0 := w) w.heap.size rfl (.tmp 52) (.tmp 57) 46 34 (.slice none 0 0) 24 rfl Tryz.underlying46 info34 rfl (by decide) (by omega) u7 ms (rd_L3 a i) [.slice A3 (rd_L3 a i).length c3] (fun _ => True) (fun k_ => k_ < w.heap.size) rfl rfl HF.out (fun k_ hk => ⟨trivial, fun e_ => by have := Kd.N_base HO2.out k_ e_.symm; omega⟩) (fun _ _ => trivial) ?aO ?aB ?aS ?aL ?_; (case aO => exact HO2.out); (case aB => exact HB2.out); (case aS => exact (below_size HB2.out)); (case aL => exact (by have := HML.out; omega)); intro v1 w1 ho hb hg hat; skip)
        exact ⟨⟨i + 1, k, ms ++ [rd_L3 a i], by go_num, by rw [hkb], h1, hk', ⟨by rw [List.append_assoc, List.singleton_append, ← HM.out, drop_cons3 h1, hkb, List.drop_length, mrg_nil_right, mrg_nil_right]⟩, ⟨by rw [List.length_append, List.length_singleton]; have := HMS.out; omega⟩, ⟨hb⟩, ⟨ho⟩⟩, by simp [intOf]; omega⟩
    · have hia : i = a.length := by omega
      have hi1 : ¬ (i : Int) < a.length := by omega
      have hi3 : ((i : Int) == (a.length : Int)) = true := by rw [beq_iff_eq]; omega
      by_cases h2 : k < b.length
      · have hk1 : (0 : Int) ≤ k := by omega
        have hk2 : (k : Int) < b.length := by omega
        obtain ⟨ya, A4, c4, rfl, y0, hle4, hrow4⟩ := at_L3 H2.out k (by omega) (by omega)
        rw [Int.toNat_natCast] at y0
        replace y0 := pw_cell_below HB.out y0
        have ybl := World.block_lt_of_cell? _ _ y0
        have HC4 := Aside0.mk hrow4
        clear hrow4
        go_wp2_with fail
        have gx := cell_grown ybl y0
        clear y0
        go_quiet_grown (fail)
        have hbg := below_gr wr nq osq
        have HB2 := Aside0.mk (bthen HB.out hbg)
        have HO2 := Aside0.mk (Kd.N_below HO.out hbg)
        have y2 := gx nq osq
        clear gx hbg HO HB ybl
        generalize grow (wr.drewN nq) osq = w2 at *
        have yb2 := World.block_lt_of_cell? _ _ y2
        have HF := Aside0.mk (FK_came hle4 (Kd.F_below (Kd.C_F k82_heap HC4.out) HB2.out))
        go_wp2_with (at_builtin; refine Kd.N_append kRow (w0 := w) w.heap.size rfl (.tmp 43) (.tmp 48) 46 34 (.slice none 0 0) 24 rfl Tryz.underlying46 info34 rfl (by decide) (by omega) u7 ms (rd_L3 b k) [.slice A4 (rd_L3 b k).length c4] (fun _ => True) (fun k_ => k_ < w.heap.size) rfl rfl HF.out (fun k_ hk => ⟨trivial, fun e_ => by have := Kd.N_base HO2.out k_ e_.symm; omega⟩) (fun _ _ => trivial) ?aO ?aB ?aS ?aL ?_; (case aO => exact HO2.out); (case aB => exact HB2.out); (case aS => exact (below_size HB2.out)); (case aL => exact (by have := HML.out; omega)); intro v1 w1 ho hb hg hat; skip)
        exact ⟨⟨i, k + 1, ms ++ [rd_L3 b k], by rw [hia], by go_num, hi', h2, ⟨by rw [List.append_assoc, List.singleton_append, ← HM.out, hia, List.drop_length, drop_cons3 h2, mrg_nil, mrg_nil]⟩, ⟨by rw [List.length_append, List.length_singleton]; have := HMS.out; omega⟩, ⟨hb⟩, ⟨ho⟩⟩, by simp [intOf]; omega⟩
      · have hk1 : ¬ (k : Int) < b.length := by omega
        have HR := Lib.hid (show ms = mrg a b from by
          have := HM.out
          rw [show i = a.length by omega, show k = b.length by omega, List.drop_length, List.drop_length, mrg_nil, List.append_nil] at this
          exact this)
        obtain ⟨A5, c5, rfl, hc5, hC5⟩ := Kd.N_reads HO.out
        have HC5 := Aside0.mk hC5
        clear hC5
        go_wp2
        go_ret
        exact rows_mk rfl hc5 HR.out HC5.out HB.out
end Go.Proofs.YtiamihkfphmohaaGreatDoor.PA

namespace Go.Proofs.YtiamihkfphmohaaGreatDoor.PA
open Go.RowKit Go.Proofs.YtiamihkfphmohaaGreatDoorW.PrintWords Go.Proofs.YtiamihkfphmohaaGreatDoorW.PrintLast Go.Proofs.YtiamihkfphmohaaGreatDoorW.PrintMore

open Go.Sort
attribute [local irreducible] Go.wpQuiet
theorem C_oneRow {W : World} {g : Nat} {x : List S82} {A : Option Addr} {c : Nat} (hb : W.heap[g]? = some (.cells #[.slice A x.length c] 34 (0, 0))) (hc : x.length ≤ c) (hC : k82.C W A x.length x) : (Kd.slice 82 k82).C W (some ⟨g, 0, none⟩) 1 [x] := by
  refine C_of_blk (xs := [x]) hb [[.slice A x.length c]] rfl (by simp) (fun j z c' h1 h2 => ?_) (fun j c' h2 i u hu => ?_)
  · rcases j with _ | j
    · obtain rfl := Option.some.inj h1; obtain rfl := Option.some.inj h2; exact ⟨A, c, rfl, hc, hC⟩
    · simp at h1
  · rcases j with _ | j
    · obtain rfl := Option.some.inj h2
      rcases i with _ | i <;> first | exact hu | (simp at hu)
    · simp at h2
def SortP (l ys : List (List S82)) : Prop := ys.Perm l ∧ ys.Pairwise (fun a b => rcmp a b ≤ 0)
theorem sortP_mrg {l a b : List (List S82)} {m : Nat} (ha : SortP (l.take m) a) (hb : SortP (l.drop m) b) : SortP l (mrg a b) :=
  ⟨(mrg_perm a b).trans ((ha.1.append hb.1).trans (by rw [List.take_append_drop])), mrg_sorted a b ha.2 hb.2⟩
set_option maxHeartbeats 4000000 in
set_option maxRecDepth 100000 in
theorem q102 : ∀ (n : Nat) (l : List (List S82)) (A : Option Addr) (c : Nat) (w : World), l.length = n → l.length ≤ c → (Kd.slice 82 k82).C w A l.length l → l.length ≤ 1000000 → (∀ x ∈ l, x.length ≤ 1000000) →
    Calls Tryz.prog 102 #[.slice A l.length c, .slice none 0 0] w (RowsRes (SortP l) w) := by
  intro n
  induction n using Nat.strongRecOn with
  | _ n ih =>
  intro l A c w hn hlc hC hl hrows
  subst hn
  have mixed := mixedT
  have HC := Aside0.mk hC
  have HR := Lib.hid hrows
  have IH := Lib.hid ih
  clear hC hrows ih
  go_enter Tryz.func102, Tryz.ntmps102
  by_cases h0 : l.length = 0
  · have hz : ((l.length : Int) == 0) = true := by simp [h0]
    have hl0 : l = [] := List.eq_nil_of_length_eq_zero h0
    have HO1 := Aside0.mk (Kd.R_N (R_made (d := kRow) (e := 34) (size := 1) (w := w.alloc (.cells #[] 34)) (base := w.heap.size) (v := .slice (some ⟨w.heap.size, 0, none⟩) 0 0) rfl (by have h := World.ownsRow_lit (base := w.heap.size) (e := 34) (size := 1) w #[] 0 (Nat.le_refl _) (by simp [maxLen]) (by simp); simpa using h)))
    go_wp2
    go_ret
    exact rows_mk (ys := []) rfl (Nat.zero_le _) (by rw [hl0]; exact ⟨List.Perm.refl _, List.Pairwise.nil⟩) (Kd.N_reads' HO1.out).2.2 (below_alloc (Below.refl _ _) _)
  have hz0 : ((l.length : Int) == 0) = false := by rw [beq_eq_false_iff_ne]; omega
  by_cases h1 : l.length = 1
  · have hz1 : ((l.length : Int) == 1) = true := by simp [h1]
    have hx : l = [rd_L3 l 0] := by
      cases l with
      | nil => simp at h1
      | cons x r =>
        cases r with
        | nil => rfl
        | cons y r => simp at h1
    have hrl : (rd_L3 l 0).length ≤ 1000000 := HR.out _ (by rw [hx]; simp [rd_L3])
    obtain ⟨xa, A3, c3, rfl, x0, hle3, hrow3⟩ := at_L3 HC.out 0 (by decide) (by omega)
    have e0 : xa.add ((0 : Int).toNat) = xa := Addr.add_zero' xa
    rw [e0] at x0
    have xbl := World.block_lt_of_cell? _ _ x0
    have HX := Lib.hid hx
    have HO := Aside0.mk (R_made (d := k82) (e := 82) (size := 3) (w := w.alloc (.cells #[] 82)) (base := w.heap.size) (v := .slice (some ⟨w.heap.size, 0, none⟩) 0 0) rfl (by have h := World.ownsRow_lit (base := w.heap.size) (e := 82) (size := 3) w #[] 0 (Nat.le_refl _) (by simp [maxLen]) (by simp); simpa using h))
    have HQ := Aside0.mk (show ReadsRow (fun x cs => cs = en82 x) 3 (w.alloc (.cells #[] 82)) A3 (rd_L3 l 0).length (rd_L3 l 0) from ReadsRow.imp_ hrow3 (below_alloc (Below.refl _ _) _) (fun x cs h => k82_open h))
    clear hrow3 hx e0
    go_wp2_with (at_builtin; refine Kd.R_append_rows k82 (Rr := fun x cs => cs = en82 x) (w0 := w) w.heap.size rfl (.tmp 13) (.tmp 16) 34 82 (.agg #[(.int .i64 0), (.int .i64 0), (.string ⟨#[]⟩)]) 32 rfl Tryz.underlying34 info82 rfl (by decide) (by omega) (.slice (some ⟨w.heap.size, 0, none⟩) 0 0) ([] : List S82) (rd_L3 l 0) A3 (rd_L3 l 0).length c3 (fun _ => True) (fun _ => False) rfl rfl ?aO ?aR ?aK (fun _ hk => hk.elim) (fun _ _ => trivial) ?aB ?aS ?aL ?_; (case aO => exact HO.out); (case aR => exact HQ.out); (case aK => exact (fun x cs h => h ▸ k82_mkM _ _ _ x)); (case aB => exact (below_alloc (Below.refl _ _) _)); (case aS => exact (below_size (below_alloc (Below.refl _ _) _))); (case aL => exact (by simp; omega)); intro v1 w1 ho hb hg hat; rw [List.nil_append] at ho; obtain ⟨A7, c7, hv7⟩ := Kd.R_slice ho; subst hv7; skip)
    go_ret
    exact rows_mk (ys := [rd_L3 l 0]) rfl (Nat.le_refl _) (by rw [HX.out]; exact ⟨List.Perm.refl _, List.pairwise_singleton _ _⟩) (C_oneRow (blk_new _ _) (Kd.R_reads' ho).2.1 (Kd.C_below (Kd.R_reads' ho).2.2 (below_alloc (Below.refl _ _) _))) (below_alloc hb _)
  have hz1 : ((l.length : Int) == 1) = false := by rw [beq_eq_false_iff_ne]; omega
  have hm : l.length / 2 < l.length := Nat.div_lt_self (by omega) (by omega)
  have hq : (l.length : Int) / 2 = ((l.length / 2 : Nat) : Int) := by omega
  have hm2 : 0 < l.length / 2 := by omega
  have HQ := Lib.hid hq
  clear hq
  go_wp2
  rw [HQ.out]
  generalize hmm : l.length / 2 = m at *
  obtain ⟨xa, A3, c3, rfl, x0, hle3, hrow3⟩ := at_L3 HC.out 0 (by decide) (by omega)
  clear x0 hle3 hrow3
  have hT := Kd.C_take HC.out (Nat.le_of_lt hm)
  have hD := Kd.C_drop HC.out (Nat.le_of_lt hm) hlc
  rw [if_neg (show ¬ c = m by omega)] at hD
  have hlt : (l.take m).length = m := by rw [List.length_take]; omega
  have hld : (l.drop m).length = l.length - m := List.length_drop
  have IH1 : ∀ W, Below w.heap.size w W → Calls Tryz.prog 102 #[.slice (some xa) m c, .slice none 0 0] W (RowsRes (SortP (l.take m)) W) := fun W hW => by
    have h := IH.out m (by omega) (l.take m) (some xa) c W hlt (by omega) (Kd.C_below hT hW) (by omega) (fun x hx => HR.out x (List.mem_of_mem_take hx))
    rw [hlt] at h
    exact h
  have IH2 : ∀ W, Below w.heap.size w W → Calls Tryz.prog 102 #[.slice (some (xa.add m)) (l.length - m) (c - m), .slice none 0 0] W (RowsRes (SortP (l.drop m)) W) := fun W hW => by
    have e1 : (some xa).map (fun a : Addr => a.add (m * (Kd.slice 82 k82).sz)) = some (xa.add m) := by
      show some (xa.add (m * 1)) = _
      rw [Nat.mul_one]
    rw [e1] at hD
    have h := IH.out (l.length - m) (by omega) (l.drop m) (some (xa.add m)) (c - m) W hld (by omega) (Kd.C_below hD hW) (by omega) (fun x hx => HR.out x (List.mem_of_mem_drop hx))
    rw [hld] at h
    exact h
  have J1 := Lib.hid IH1
  have J2 := Lib.hid IH2
  have HLT := Lib.hid hlt
  have HLD := Lib.hid hld
  have HM := Lib.hid hmm
  have hm0 : (0 : Int) ≤ m := by omega
  have hm3 : (m : Int) ≤ l.length := by omega
  have hm4 : (m : Int) ≤ c := by omega
  have hm5 : (l.length : Int) ≤ c := by omega
  have hm6 : ¬ c = m := by omega
  have hm7 : ¬ (c : Int) = m := by omega
  have hm8 : ¬ c = 0 := by omega
  have hm9 : ¬ (c : Int) = 0 := by omega
  clear IH1 IH2 hT hD hlt hld hmm
  go_region_held3 (fun W => Below w.heap.size w W)
    (first
      | exact bthen (by assumption) hbc
      | exact below_drew (Below.refl _ _)
      | exact Below.refl _ _)
    (first
      | (go_at_call 102; have hq4 := HP4; refine (J2.out _ (by assumption)).mono ?_; rintro e w2 ⟨A5, c5, a5, rfl, hc5, hp5, hC5, hb5⟩; have hbc := hb5; have HA5 := Aside0.mk hC5; have HP5 := Aside0.mk hp5; clear hC5 hp5)
      | (go_at_call 102; refine (J1.out _ (by assumption)).mono ?_; rintro e w1 ⟨A4, c4, a4, rfl, hc4, hp4, hC4, hb4⟩; have hbc := hb4; have HA4 := Aside0.mk hC4; have HP4 := Aside0.mk hp4; clear hC4 hp4)
      | (go_at_call 140; refine (q140 A4 c4 a4 A5 c5 a5 _ (Kd.C_below HA4.out hb5) HA5.out (by rw [HP4.out.1.length_eq, List.length_take]; omega) (by rw [HP5.out.1.length_eq, List.length_drop]; omega)).mono ?_; rintro e w3 ⟨A6, c6, ys, rfl, hc6, hys, hC6, hb6⟩; have hbc := hb6; have HA6 := Aside0.mk hC6; have HY := Lib.hid hys; clear hC6 hys))
  all_goals
    have HBF : Below w.heap.size w w3 := by assumption
    go_wp2
    go_ret
    exact rows_mk rfl hc6 (by rw [HY.out]; exact sortP_mrg HP4.out HP5.out) HA6.out HBF
set_option maxHeartbeats 1000000 in
theorem q61 (l : List (List S82)) (A : Option Addr) (c : Nat) (w : World) (hlc : l.length ≤ c) (hC : (Kd.slice 82 k82).C w A l.length l) (hl : l.length ≤ 1000000) (hrows : ∀ x ∈ l, x.length ≤ 1000000) :
    Calls Tryz.prog 61 #[.slice A l.length c] w (RowsRes (SortP l) w) := by
  have HC := Aside0.mk hC
  have HR := Lib.hid hrows
  clear hC hrows
  go_enter Tryz.func61, Tryz.ntmps61
  go_wp2_with fail
  refine (q102 _ l A c _ rfl hlc HC.out hl HR.out).mono ?_
  rintro e w1 ⟨A4, c4, a4, rfl, hc4, hp4, hC4, hb4⟩
  have HA4 := Aside0.mk hC4
  have HP4 := Aside0.mk hp4
  clear hC4 hp4
  go_wp2
  go_ret
  exact rows_mk rfl hc4 HP4.out HA4.out hb4
end Go.Proofs.YtiamihkfphmohaaGreatDoor.PA

namespace Go.Proofs.YtiamihkfphmohaaGreatDoor.PA
open Go.RowKit Go.Proofs.YtiamihkfphmohaaGreatDoorW.PrintWords Go.Proofs.YtiamihkfphmohaaGreatDoorW.PrintLast Go.Proofs.YtiamihkfphmohaaGreatDoorW.PrintMore

open Go.Sort
attribute [local irreducible] Go.wpQuiet
theorem rowsAt_ok {l : List S58} {t : Int} {m : Nat} (h : ∀ x ∈ l, x.f0.length ≤ m) : ∀ r ∈ rowsAt l t, r.length ≤ m := fun r hr => by
  obtain ⟨x, hx, _, rfl⟩ := rowsAt_mem hr
  exact h x hx
set_option maxHeartbeats 1000000 in
set_option maxRecDepth 100000 in
theorem q28 (A : Option Addr) (n c : Nat) (l : List S58) (t : Int) (w : World) (hr : k58.C w A n l) (hl : l.length ≤ 1000) (hrows : ∀ x ∈ l, x.f0.length ≤ 1000000) :
    Calls Tryz.prog 28 #[.slice A n c, .int .i64 t] w (RowsRes (SortP (rowsAt l t)) w) := by
  obtain rfl := hr.1
  have HR := Aside0.mk hr
  have HX := Aside0.mk hrows
  clear hr hrows
  go_enter Tryz.func28, Tryz.ntmps28
  go_wp2
  have B0 := Aside0.mk (Below.refl w.heap.size w)
  go_loopw [5, 6] (fun v i wr => ∃ k : Nat, i = .int .i64 k ∧ k ≤ l.length ∧ Aside0 (Below w.heap.size w wr) ∧ Aside0 (Kd.N kRow 34 wr w.heap.size (fun _ => True) v (rowsAt (l.take k) t))) (fun _ i _ => l.length - (intOf i).toNat)
  case atStart => exact ⟨0, rfl, Nat.zero_le _, B0, ⟨Kd.N_nil _ _ _ _ _⟩⟩
  case round =>
    clear B0
    obtain ⟨k, rfl, hk', HB, HO⟩ := hrel
    by_cases h1 : k < l.length
    · have hst := Lib.hid (rowsAt_step (t := t) h1)
      obtain ⟨xa, A3, c3, rfl, x0, x1, x2, hle, hrow⟩ := at_T58 HR.out k (by omega) (by omega)
      rw [Int.toNat_natCast] at x0 x1 x2
      replace x0 := pw_cell_below HB.out x0
      replace x1 := pw_cell_below HB.out x1
      replace x2 := pw_cell_below HB.out x2
      have xbl := World.block_lt_of_cell? _ _ x0
      have HF := Aside0.mk (Kd.C_F k82_heap hrow)
      clear hrow
      have hk1 : (0 : Int) ≤ k := by omega
      have hk2 : (k : Int) < l.length := by omega
      go_wp2_with fail
      refine (c44 _ _ _ _).mono ?_
      rintro e w2 ⟨rfl, hb8⟩
      have HB2 := Aside0.mk (bthen HB.out hb8)
      have HO2 := Aside0.mk (Kd.N_below HO.out hb8)
      have HF2 := Aside0.mk (Kd.F_below HF.out HB2.out)
      replace x0 := pw_cell_below hb8 x0
      have xbl := World.block_lt_of_cell? _ _ x0
      clear HB HO HF hb8 x1 x2
      by_cases hq : pc (rd_T58 l k).f1 t = true
      · have hq' : pc ⟨(rd_T58 l k).f1.f0, (rd_T58 l k).f1.f1⟩ t = true := hq
        go_wp2_with (at_builtin; refine Kd.N_append kRow (w0 := w) w.heap.size rfl (.tmp 20) (.tmp 26) 46 34 (.slice none 0 0) 24 rfl Tryz.underlying46 info34 rfl (by decide) (by omega) u5 (rowsAt (l.take k) t) (rd_T58 l k).f0 [.slice A3 (rd_T58 l k).f0.length c3] (fun _ => True) (fun k_ => k_ < w.heap.size) rfl rfl (FK_came hle HF2.out) (fun k_ hk => ⟨trivial, fun e_ => by have := Kd.N_base HO2.out k_ e_.symm; omega⟩) (fun _ _ => trivial) ?aO ?aB ?aS ?aL ?_; (case aO => exact HO2.out); (case aB => exact HB2.out); (case aS => exact (below_size HB2.out)); (case aL => exact (by have := rowsAt_len (l.take k) t; rw [List.length_take] at this; omega)); intro v1 w1 ho hb hg hat; skip)
        exact ⟨⟨k + 1, by go_num, h1, ⟨hb⟩, ⟨by rw [hst.out, if_pos hq]; exact ho⟩⟩, by simp [intOf]; omega⟩
      · have hq' : pc ⟨(rd_T58 l k).f1.f0, (rd_T58 l k).f1.f1⟩ t = false := by simpa using hq
        go_wp2
        exact ⟨⟨k + 1, by go_num, h1, HB2, ⟨by rw [hst.out, if_neg hq, List.append_nil]; exact HO2.out⟩⟩, by simp [intOf]; omega⟩
    · have htk : l.take k = l := List.take_of_length_le (by omega)
      rw [htk] at HO
      have hN := HO.out
      have hlen := rowsAt_len l t
      obtain ⟨A5, c5, hv5, hc5, hC5⟩ := Kd.N_reads hN
      subst hv5
      clear hN
      have HL := Lib.hid (rowsAt_ok (t := t) HX.out)
      have HLN := Lib.hid (show (rowsAt l t).length ≤ 1000000 by omega)
      have HC5 := Aside0.mk hC5
      clear hC5 hlen
      go_wp2_with fail
      refine (q61 (rowsAt l t) A5 c5 _ hc5 HC5.out HLN.out HL.out).mono ?_
      rintro e w1 ⟨A6, c6, ys, rfl, hc6, hp6, hC6, hb6⟩
      have HP6 := Aside0.mk hp6
      have HC6 := Aside0.mk hC6
      have HB6 := Aside0.mk (bthen HB.out hb6)
      clear hp6 hC6 hb6
      go_wp2
      go_ret
      exact rows_mk rfl hc6 HP6.out HC6.out HB6.out
end Go.Proofs.YtiamihkfphmohaaGreatDoor.PA

namespace Go.Proofs.YtiamihkfphmohaaGreatDoor.PA
open Go.RowKit Go.Proofs.YtiamihkfphmohaaGreatDoorW.PrintWords Go.Proofs.YtiamihkfphmohaaGreatDoorW.PrintLast Go.Proofs.YtiamihkfphmohaaGreatDoorW.PrintMore

open Go.Sort
attribute [local irreducible] Go.wpQuiet
/-- A number put into an ascending list, unless it is there. -/
def insI : List Int → Int → List Int
  | [], n => [n]
  | x :: l, n => if x < n then x :: insI l n else if n < x then n :: x :: l else x :: l
theorem insI_skip {l : List Int} {n : Int} {k : Nat} (hk : k ≤ l.length) (h : ∀ j : Nat, j < k → rd l j < n) : insI l n = l.take k ++ insI (l.drop k) n := by
  induction l generalizing k with
  | nil => simp at hk; subst hk; simp
  | cons x l ih =>
    cases k with
    | zero => simp
    | succ k =>
      have h0 := h 0 (by omega)
      simp [Go.Proofs.YtiamihkfphmohaaGreatDoorW.PrintWords.rd] at h0
      rw [insI, if_pos h0, List.take_succ_cons, List.drop_succ_cons, List.cons_append, ih (by simpa using hk) (fun j hj => by have := h (j + 1) (by omega); simpa [Go.Proofs.YtiamihkfphmohaaGreatDoorW.PrintWords.rd] using this)]
theorem insI_mem {l : List Int} {n x : Int} : x ∈ insI l n ↔ x = n ∨ x ∈ l := by
  induction l with
  | nil => simp [insI]
  | cons y l ih =>
    rw [insI]
    split
    · rw [List.mem_cons, ih, List.mem_cons]; constructor <;> (intro h; rcases h with h | h | h <;> simp [h])
    · split
      · simp
      · have : y = n := by omega
        subst this
        simp
theorem insI_len (l : List Int) (n : Int) : (insI l n).length ≤ l.length + 1 := by
  induction l with
  | nil => simp [insI]
  | cons y l ih =>
    rw [insI]
    split
    · simp; omega
    · split <;> simp
theorem ri_drop {l : List Int} {k : Nat} (h : k < l.length) : l.drop k = rd l k :: l.drop (k + 1) := by
  rw [List.drop_eq_getElem_cons h]
  simp [Go.Proofs.YtiamihkfphmohaaGreatDoorW.PrintWords.rd, h]
theorem ri_take {l : List Int} {k : Nat} (h : k < l.length) : l.take (k + 1) = l.take k ++ [rd l k] := by
  rw [take_step h]
  simp [Go.Proofs.YtiamihkfphmohaaGreatDoorW.PrintWords.rd, h]
theorem ri_dropk {l : List Int} {k j : Nat} (h : k ≤ j) (hj : j < l.length) : rd (l.drop k) (j - k : Nat) = rd l j := by
  have e : k + (j - k) = j := by omega
  simp [Go.Proofs.YtiamihkfphmohaaGreatDoorW.PrintWords.rd, e]
def IntsRes (r : List Int) (w : World) (e : Ending) (w' : World) : Prop := ∃ v, e = .returned v ∧ (Kd.int .i64).R 3 w' w.heap.size (fun _ => True) v r ∧ Below w.heap.size w w'
set_option maxHeartbeats 2000000 in
set_option maxRecDepth 100000 in
theorem q67 (A : Option Addr) (n c : Nat) (l : List Int) (z : Int) (w : World) (hr : (Kd.int .i64).C w A n l) (hl : l.length ≤ 1000000) :
    Calls Tryz.prog 67 #[.slice A n c, .int .i64 z] w (IntsRes (insI l z) w) := by
  obtain rfl := hr.1
  have HR := Aside0.mk hr
  clear hr
  go_enter Tryz.func67, Tryz.ntmps67
  go_wp2
  go_loopw [5, 6] (fun v i wr => ∃ k : Nat, i = .int .i64 k ∧ k ≤ l.length ∧ Aside0 (Below w.heap.size w wr) ∧ Aside0 ((Kd.int .i64).R 3 wr w.heap.size (fun _ => True) v (l.take k)) ∧ Aside0 (∀ j : Nat, j < k → rd l j < z)) (fun _ i _ => l.length - (intOf i).toNat)
  case atStart => exact ⟨0, rfl, Nat.zero_le _, ⟨Below.refl _ _⟩, ⟨Kd.R_nil _ _ _ _ _⟩, ⟨fun _ h => by omega⟩⟩
  case round =>
    obtain ⟨k, rfl, hk', HB, HO, HP⟩ := hrel
    by_cases h1 : k < l.length
    · have hk1 : (0 : Int) ≤ k := by omega
      have hk2 : (k : Int) < l.length := by omega
      have hk3 : ((k : Int) == (l.length : Int)) = false := by rw [beq_eq_false_iff_ne]; omega
      obtain ⟨xa, rfl, x0⟩ := Kd.at_int HR.out k (by omega) (by omega)
      rw [Int.toNat_natCast] at x0
      replace x0 := pw_cell_below HB.out x0
      have xbl := World.block_lt_of_cell? _ _ x0
      by_cases hz : rd l k < z
      · have HZ := Lib.hid hz
        go_wp2_with (at_builtin; refine Kd.R_append (Kd.int .i64) (w0 := w) w.heap.size rfl (.tmp 19) (.tmp 24) 23 3 (.int .i64 0) 8 rfl Tryz.underlying23 info3 rfl (by decide) (by omega) u5 (l.take k) (rd l k) [.int .i64 (rd l k)] (fun _ => True) (fun _ => False) rfl rfl (show (Kd.int .i64).M _ _ _ _ _ from rfl) (fun _ hk => hk.elim) (fun _ _ => trivial) ?aO ?aB ?aS ?aL ?_; (case aO => exact HO.out); (case aB => exact HB.out); (case aS => exact HB.out.size); (case aL => exact (by rw [List.length_take]; omega)); intro v1 w6 ho hb hg hat; skip)
        exact ⟨⟨k + 1, by go_num, h1, ⟨hb⟩, ⟨by rw [ri_take h1]; exact ho⟩, ⟨fun j hj => by
          rcases Nat.lt_succ_iff_lt_or_eq.1 hj with h | h
          · exact HP.out j h
          · subst h; exact HZ.out⟩⟩, by simp [intOf]; omega⟩
      · have HIS := Lib.hid (insI_skip hk' HP.out)
        by_cases hg : z < rd l k
        · have HFIN := Lib.hid (show (l.take k ++ [z]) ++ l.drop k = insI l z from by
            rw [HIS.out, ri_drop h1, insI, if_neg hz, if_pos hg, List.append_assoc]; rfl)
          go_wp2_with (at_builtin; refine Kd.R_append (Kd.int .i64) (w0 := w) w.heap.size rfl (.tmp 40) (.tmp 42) 23 3 (.int .i64 0) 8 rfl Tryz.underlying23 info3 rfl (by decide) (by omega) u5 (l.take k) z [.int .i64 z] (fun _ => True) (fun _ => False) rfl rfl (show (Kd.int .i64).M _ _ _ _ _ from rfl) (fun _ hk => hk.elim) (fun _ _ => trivial) ?aO ?aB ?aS ?aL ?_; (case aO => exact HO.out); (case aB => exact HB.out); (case aS => exact HB.out.size); (case aL => exact (by rw [List.length_take]; omega)); intro v1 w6 ho hb hg hat; skip)
          go_loopw [5, 6] (fun v i wr => ∃ j : Nat, i = .int .i64 j ∧ k ≤ j ∧ j ≤ l.length ∧ Aside0 (Below w.heap.size w wr) ∧ Aside0 ((Kd.int .i64).R 3 wr w.heap.size (fun _ => True) v ((l.take k ++ [z]) ++ (l.drop k).take (j - k)))) (fun _ i _ => l.length - (intOf i).toNat)
          case atStart => exact ⟨k, rfl, Nat.le_refl _, hk', ⟨hb⟩, ⟨by rw [Nat.sub_self, List.take_zero, List.append_nil]; exact ho⟩⟩
          case round =>
            obtain ⟨j, rfl, hkj, hj', HB2, HO2⟩ := hrel
            by_cases j1 : j < l.length
            · have hj1 : (0 : Int) ≤ j := by omega
              have hj2 : (j : Int) < l.length := by omega
              obtain ⟨ya, eya, y0⟩ := Kd.at_int HR.out j (by omega) (by omega)
              obtain rfl : xa = ya := by injection eya
              rw [Int.toNat_natCast] at y0
              replace y0 := pw_cell_below HB2.out y0
              have ybl := World.block_lt_of_cell? _ _ y0
              have hstep := Lib.hid (show (l.take k ++ [z]) ++ (l.drop k).take (j + 1 - k) = ((l.take k ++ [z]) ++ (l.drop k).take (j - k)) ++ [rd l j] from by
                rw [show j + 1 - k = (j - k) + 1 by omega, ri_take (l := l.drop k) (by rw [List.length_drop]; omega), ri_dropk hkj j1]
                simp only [List.append_assoc])
              go_wp2_with (at_builtin; refine Kd.R_append (Kd.int .i64) (w0 := w) w.heap.size rfl (.tmp 48) (.tmp 53) 23 3 (.int .i64 0) 8 rfl Tryz.underlying23 info3 rfl (by decide) (by omega) u5 ((l.take k ++ [z]) ++ (l.drop k).take (j - k)) (rd l j) [.int .i64 (rd l j)] (fun _ => True) (fun _ => False) rfl rfl (show (Kd.int .i64).M _ _ _ _ _ from rfl) (fun _ hk => hk.elim) (fun _ _ => trivial) ?aO ?aB ?aS ?aL ?_; (case aO => exact HO2.out); (case aB => exact HB2.out); (case aS => exact HB2.out.size); (case aL => exact (by simp only [List.length_append, List.length_take, List.length_drop, List.length_singleton]; omega)); intro v1 w6 ho hb hg hat; skip)
              exact ⟨⟨j + 1, by go_num, by omega, j1, ⟨hb⟩, ⟨by rw [hstep.out]; exact ho⟩⟩, by simp [intOf]; omega⟩
            · have HO3 := Lib.hid (show (l.take k ++ [z]) ++ (l.drop k).take (j - k) = insI l z from by
                rw [List.take_of_length_le (show (l.drop k).length ≤ j - k by rw [List.length_drop]; omega)]; exact HFIN.out)
              go_wp2
              go_ret
              exact ⟨_, rfl, by rw [← HO3.out]; exact HO2.out, HB2.out⟩
        · have HFIN := Lib.hid (show l.take k ++ l.drop k = insI l z from by
            rw [HIS.out, ri_drop h1, insI, if_neg hz, if_neg hg])
          go_wp2
          go_loopw [5, 6] (fun v i wr => ∃ j : Nat, i = .int .i64 j ∧ k ≤ j ∧ j ≤ l.length ∧ Aside0 (Below w.heap.size w wr) ∧ Aside0 ((Kd.int .i64).R 3 wr w.heap.size (fun _ => True) v (l.take k ++ (l.drop k).take (j - k)))) (fun _ i _ => l.length - (intOf i).toNat)
          case atStart => exact ⟨k, rfl, Nat.le_refl _, hk', ⟨HB.out⟩, ⟨by rw [Nat.sub_self, List.take_zero, List.append_nil]; exact HO.out⟩⟩
          case round =>
            obtain ⟨j, rfl, hkj, hj', HB2, HO2⟩ := hrel
            by_cases j1 : j < l.length
            · have hj1 : (0 : Int) ≤ j := by omega
              have hj2 : (j : Int) < l.length := by omega
              obtain ⟨ya, eya, y0⟩ := Kd.at_int HR.out j (by omega) (by omega)
              obtain rfl : xa = ya := by injection eya
              rw [Int.toNat_natCast] at y0
              replace y0 := pw_cell_below HB2.out y0
              have ybl := World.block_lt_of_cell? _ _ y0
              have hstep := Lib.hid (show l.take k ++ (l.drop k).take (j + 1 - k) = (l.take k ++ (l.drop k).take (j - k)) ++ [rd l j] from by
                rw [show j + 1 - k = (j - k) + 1 by omega, ri_take (l := l.drop k) (by rw [List.length_drop]; omega), ri_dropk hkj j1]
                simp only [List.append_assoc])
              go_wp2_with (at_builtin; refine Kd.R_append (Kd.int .i64) (w0 := w) w.heap.size rfl (.tmp 48) (.tmp 53) 23 3 (.int .i64 0) 8 rfl Tryz.underlying23 info3 rfl (by decide) (by omega) u5 (l.take k ++ (l.drop k).take (j - k)) (rd l j) [.int .i64 (rd l j)] (fun _ => True) (fun _ => False) rfl rfl (show (Kd.int .i64).M _ _ _ _ _ from rfl) (fun _ hk => hk.elim) (fun _ _ => trivial) ?aO ?aB ?aS ?aL ?_; (case aO => exact HO2.out); (case aB => exact HB2.out); (case aS => exact HB2.out.size); (case aL => exact (by simp only [List.length_append, List.length_take, List.length_drop, List.length_singleton]; omega)); intro v1 w6 ho hb hg hat; skip)
              exact ⟨⟨j + 1, by go_num, by omega, j1, ⟨hb⟩, ⟨by rw [hstep.out]; exact ho⟩⟩, by simp [intOf]; omega⟩
            · have HO3 := Lib.hid (show l.take k ++ (l.drop k).take (j - k) = insI l z from by
                rw [List.take_of_length_le (show (l.drop k).length ≤ j - k by rw [List.length_drop]; omega)]; exact HFIN.out)
              go_wp2
              go_ret
              exact ⟨_, rfl, by rw [← HO3.out]; exact HO2.out, HB2.out⟩
    · have hk1 : ¬ (k : Int) < l.length := by omega
      have hk3 : ((k : Int) == (l.length : Int)) = true := by rw [beq_iff_eq]; omega
      have HFIN := Lib.hid (show (l.take k ++ [z]) ++ l.drop k = insI l z from by
        rw [insI_skip hk' HP.out, List.drop_eq_nil_of_le (by omega), List.append_nil]; rfl)
      go_wp2_with (at_builtin; refine Kd.R_append (Kd.int .i64) (w0 := w) w.heap.size rfl (.tmp 40) (.tmp 42) 23 3 (.int .i64 0) 8 rfl Tryz.underlying23 info3 rfl (by decide) (by omega) u5 (l.take k) z [.int .i64 z] (fun _ => True) (fun _ => False) rfl rfl (show (Kd.int .i64).M _ _ _ _ _ from rfl) (fun _ hk => hk.elim) (fun _ _ => trivial) ?aO ?aB ?aS ?aL ?_; (case aO => exact HO.out); (case aB => exact HB.out); (case aS => exact HB.out.size); (case aL => exact (by rw [List.length_take]; omega)); intro v1 w6 ho hb hg hat; skip)
      go_loopw [5, 6] (fun v i wr => ∃ j : Nat, i = .int .i64 j ∧ k ≤ j ∧ j ≤ l.length ∧ Aside0 (Below w.heap.size w wr) ∧ Aside0 ((Kd.int .i64).R 3 wr w.heap.size (fun _ => True) v ((l.take k ++ [z]) ++ (l.drop k).take (j - k)))) (fun _ i _ => l.length - (intOf i).toNat)
      case atStart => exact ⟨k, rfl, Nat.le_refl _, hk', ⟨hb⟩, ⟨by rw [Nat.sub_self, List.take_zero, List.append_nil]; exact ho⟩⟩
      case round =>
        obtain ⟨j, rfl, hkj, hj', HB2, HO2⟩ := hrel
        by_cases j1 : j < l.length
        · have hj1 : (0 : Int) ≤ j := by omega
          have hj2 : (j : Int) < l.length := by omega
          obtain ⟨ya, eya, y0⟩ := Kd.at_int HR.out j (by omega) (by omega)
          exact absurd j1 (by omega)
        · have HO3 := Lib.hid (show (l.take k ++ [z]) ++ (l.drop k).take (j - k) = insI l z from by
            rw [List.take_of_length_le (show (l.drop k).length ≤ j - k by rw [List.length_drop]; omega)]; exact HFIN.out)
          go_wp2
          go_ret
          exact ⟨_, rfl, by rw [← HO3.out]; exact HO2.out, HB2.out⟩
end Go.Proofs.YtiamihkfphmohaaGreatDoor.PA
