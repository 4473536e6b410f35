import Derived.Shelf.SlSortCmp.QuietGrown
import Derived.Deep.RegionHeld3
import Derived.Lib.Hide
import Derived.WalkLawsBesides
import Derived.WalkSpells
import Derived.IntWalk
import Derived.Test.YtiamihkfphmohaaGreatDoorShelf
import Derived.Test.YtiamihkfphmohaaGreatDoorB1
import Derived.Test.YtiamihkfphmohaaGreatDoorA7
import Derived.Test.YtiamihkfphmohaaGreatDoorA6
set_option linter.unusedVariables false
set_option linter.unusedSimpArgs false

namespace Go.Proofs.YtiamihkfphmohaaGreatDoor.PA
open Go.RowKit Go.Proofs.YtiamihkfphmohaaGreatDoorW.PrintWords Go.Proofs.YtiamihkfphmohaaGreatDoorW.PrintLast Go.Proofs.YtiamihkfphmohaaGreatDoorW.PrintMore

open Go.Sort
attribute [local irreducible] Go.wpQuiet
/-- Numbers that may be read: the call's result. -/
def IntsC (r : List Int) (w : World) (e : Ending) (w' : World) : Prop := ∃ (A : Option Addr) (c : Nat), e = .returned (.slice A r.length c) ∧ (Kd.int .i64).C w' A r.length r ∧ Below w.heap.size w w'
def ptsStep (acc : List Int) (x : S58) : List Int := if pv x.f1 = true then (if x.f1.f1 < 1099511627776 then insI (insI acc x.f1.f0) x.f1.f1 else insI acc x.f1.f0) else acc
/-- P22.5. -/
def pts (l : List S58) : List Int := l.foldl ptsStep [0]
theorem pts_step {l : List S58} {k : Nat} (h : k < l.length) : pts (l.take (k + 1)) = ptsStep (pts (l.take k)) (rd_T58 l k) := by
  have e : l[k] = rd_T58 l k := by simp [rd_T58, h]
  rw [take_step h, pts, List.foldl_append, e]
  rfl
theorem ptsStep_len (acc : List Int) (x : S58) : (ptsStep acc x).length ≤ acc.length + 2 := by
  unfold ptsStep
  split
  · split
    · have h1 := insI_len (insI acc x.f1.f0) x.f1.f1
      have h2 := insI_len acc x.f1.f0
      omega
    · have h2 := insI_len acc x.f1.f0
      omega
  · omega
theorem pts_len (l : List S58) : (pts l).length ≤ 2 * l.length + 1 := by
  have : ∀ (l : List S58) (acc : List Int), (l.foldl ptsStep acc).length ≤ 2 * l.length + acc.length := by
    intro l
    induction l with
    | nil => intro acc; simp
    | cons x l ih =>
      intro acc
      have h1 := ih (ptsStep acc x)
      have h2 := ptsStep_len acc x
      simp only [List.foldl_cons, List.length_cons]
      omega
  have h := this l [0]
  simp at h
  exact h
set_option maxHeartbeats 2000000 in
set_option maxRecDepth 100000 in
theorem q26 (A : Option Addr) (n c : Nat) (l : List S58) (w : World) (hr : k58.C w A n l) (hl : l.length ≤ 1000) :
    Calls Tryz.prog 26 #[.slice A n c] w (IntsC (pts l) w) := by
  obtain rfl := hr.1
  have HR := Aside0.mk hr
  clear hr
  go_enter Tryz.func26, Tryz.ntmps26
  have hb1 : (w.alloc (.cells #[.int .i64 0] 3)).heap[w.heap.size]? = some (.cells #[.int .i64 0] 3 (0, 0)) := blk_new _ _
  have HC1 := Aside0.mk (C_blk_ints hb1 [0] rfl 1 rfl (by decide))
  have HB1 := Aside0.mk (below_alloc (Below.refl w.heap.size w) (.cells #[.int .i64 0] 3))
  clear hb1
  go_wp2
  go_loopw [3, 4] (fun v i wr => ∃ (k : Nat) (A1 : Option Addr) (c1 : Nat), v = .slice A1 (pts (l.take k)).length c1 ∧ i = .int .i64 k ∧ k ≤ l.length ∧ Aside0 (Below w.heap.size w wr) ∧ Aside0 ((Kd.int .i64).C wr A1 (pts (l.take k)).length (pts (l.take k)))) (fun _ i _ => l.length - (intOf i).toNat)
  case atStart => exact ⟨0, some ⟨w.heap.size, 0, none⟩, 1, rfl, rfl, Nat.zero_le _, HB1, HC1⟩
  case round =>
    clear HB1 HC1
    obtain ⟨k, A1, c1, rfl, rfl, hk', HB, HC⟩ := hrel
    by_cases h1 : k < l.length
    · have hst := Lib.hid (pts_step h1)
      have hpl := pts_len (l.take k)
      rw [List.length_take] at hpl
      generalize pts (l.take k) = ps at *
      obtain ⟨xa, A3, c3, rfl, x0, x1, x2, hle, hrow⟩ := at_T58 HR.out k (by omega) (by omega)
      rw [Int.toNat_natCast] at x0 x1 x2
      replace x1 := pw_cell_below HB.out x1
      replace x2 := pw_cell_below HB.out x2
      have xbl := World.block_lt_of_cell? _ _ x1
      clear hrow x0
      have hk1 : (0 : Int) ≤ k := by omega
      have hk2 : (k : Int) < l.length := by omega
      go_wp2_with fail
      refine (c65 _ _ _).mono ?_
      rintro e w2 ⟨rfl, hb2⟩
      have HB2 := Aside0.mk (bthen HB.out hb2)
      have HC2 := Aside0.mk (Kd.C_below HC.out hb2)
      replace x1 := pw_cell_below hb2 x1
      replace x2 := pw_cell_below hb2 x2
      have xbl := World.block_lt_of_cell? _ _ x1
      clear HB HC hb2
      by_cases hq : pv (rd_T58 l k).f1 = true
      · have hq' : pv ⟨(rd_T58 l k).f1.f0, (rd_T58 l k).f1.f1⟩ = true := hq
        have HQ := Lib.hid hq
        clear hq
        go_wp2_with fail
        refine (q67 A1 _ c1 ps (rd_T58 l k).f1.f0 _ HC2.out (by omega)).mono ?_
        rintro e w3 ⟨v3, rfl, hR3, hb3⟩
        have hl3 := insI_len ps (rd_T58 l k).f1.f0
        obtain ⟨A5, c5, rfl⟩ := Kd.R_slice hR3
        have HB3 := Aside0.mk (bthen HB2.out hb3)
        have HC3 := Aside0.mk (Kd.R_reads' hR3).2.2
        replace x2 := pw_cell_below hb3 x2
        have xbl := World.block_lt_of_cell? _ _ x2
        clear hR3 hb3 HB2 HC2 x1
        by_cases hf : (rd_T58 l k).f1.f1 < 1099511627776
        · have HF := Lib.hid hf
          go_wp2_with fail
          refine (q67 A5 _ c5 (insI ps (rd_T58 l k).f1.f0) (rd_T58 l k).f1.f1 _ HC3.out (by omega)).mono ?_
          rintro e w4 ⟨v4, rfl, hR4, hb4⟩
          obtain ⟨A6, c6, rfl⟩ := Kd.R_slice hR4
          have HB4 := Aside0.mk (bthen HB3.out hb4)
          have HC4 := Aside0.mk (Kd.R_reads' hR4).2.2
          have he := Lib.hid (show pts (l.take (k + 1)) = insI (insI ps (rd_T58 l k).f1.f0) (rd_T58 l k).f1.f1 from by rw [hst.out, ptsStep, if_pos HQ.out, if_pos HF.out])
          clear hR4 hb4
          go_wp2
          exact ⟨⟨k + 1, A6, c6, by rw [he.out], by go_num, h1, HB4, ⟨by rw [he.out]; exact HC4.out⟩⟩, by simp [intOf]; omega⟩
        · have HF := Lib.hid hf
          have he := Lib.hid (show pts (l.take (k + 1)) = insI ps (rd_T58 l k).f1.f0 from by rw [hst.out, ptsStep, if_pos HQ.out, if_neg HF.out])
          go_wp2
          exact ⟨⟨k + 1, A5, c5, by rw [he.out], by go_num, h1, HB3, ⟨by rw [he.out]; exact HC3.out⟩⟩, by simp [intOf]; omega⟩
      · have hq' : pv ⟨(rd_T58 l k).f1.f0, (rd_T58 l k).f1.f1⟩ = false := by simpa using hq
        have he := Lib.hid (show pts (l.take (k + 1)) = ps from by rw [hst.out, ptsStep, if_neg hq])
        go_wp2
        exact ⟨⟨k + 1, A1, c1, by rw [he.out], by go_num, h1, HB2, ⟨by rw [he.out]; exact HC2.out⟩⟩, by simp [intOf]; omega⟩
    · rw [List.take_of_length_le (by omega)] at HC ⊢
      go_wp2
      go_ret
      exact ⟨A1, c1, rfl, HC.out, HB.out⟩
end Go.Proofs.YtiamihkfphmohaaGreatDoor.PA

namespace Go.Proofs.YtiamihkfphmohaaGreatDoor.PA
open Go.RowKit Go.Proofs.YtiamihkfphmohaaGreatDoorW.PrintWords Go.Proofs.YtiamihkfphmohaaGreatDoorW.PrintLast Go.Proofs.YtiamihkfphmohaaGreatDoorW.PrintMore

open Go.Sort
attribute [local irreducible] Go.wpQuiet
/-- Two of the rows have the same key. -/
def dbl (cols : List Int) (rows : List (List S82)) : Prop := ∃ i k : Nat, k < i ∧ i < rows.length ∧ rcmp (pick (rd_L3 rows i) cols) (pick (rd_L3 rows k) cols) = 0
def DblRes (P : Prop) (w : World) (e : Ending) (w' : World) : Prop := ∃ b : Bool, e = .returned (.bool b) ∧ (b = true ↔ P) ∧ Below w.heap.size w w'
set_option maxHeartbeats 4000000 in
set_option maxRecDepth 100000 in
theorem q27 (nm : ByteArray) (vc vf vk : Value) (A2 : Option Addr) (n2 c2 : Nat) (cols : List Int) (A : Option Addr) (n c : Nat) (rows : List (List S82)) (w : World)
    (hc : (Kd.int .i64).C w A2 n2 cols) (hcl : cols.length ≤ 1000000) (hr : (Kd.slice 82 k82).C w A n rows) (hl : rows.length ≤ 1000000) :
    Calls Tryz.prog 27 #[.agg #[.string nm, vc, .slice A2 n2 c2, vf, vk], .slice A n c] w (DblRes (dbl cols rows) w) := by
  have mixed := mixedT
  obtain rfl := hr.1
  obtain rfl := hc.1
  have HR := Aside0.mk hr
  have HC := Aside0.mk hc
  clear hr hc
  have hb0 : Below w.heap.size w (w.alloc (.cells #[.string nm, vc, .slice A2 cols.length c2, vf, vk] 27)) := below_alloc (Below.refl _ _) _
  have HB := Aside0.mk hb0
  have HX := Aside0.mk (blk_new w (.cells #[.string nm, vc, .slice A2 cols.length c2, vf, vk] 27))
  clear hb0
  go_enter Tryz.func27, Tryz.ntmps27
  go_wp2
  generalize w.alloc (.cells #[.string nm, vc, .slice A2 cols.length c2, vf, vk] 27) = W0 at *
  go_loopw [5] (fun iv wr => ∃ i : Nat, iv = .int .i64 i ∧ i ≤ rows.length ∧ Aside0 (Below w.heap.size w wr) ∧ Aside0 (wr.heap[w.heap.size]? = some (.cells #[.string nm, vc, .slice A2 cols.length c2, vf, vk] 27 (0, 0))) ∧ Aside0 (∀ i' k' : Nat, i' < i → k' < i' → rcmp (pick (rd_L3 rows i') cols) (pick (rd_L3 rows k') cols) ≠ 0)) (fun iv _ => rows.length - (intOf iv).toNat)
  case atStart => exact ⟨0, rfl, Nat.zero_le _, HB, HX, ⟨fun _ _ h => by omega⟩⟩
  case round =>
    clear HB HX
    obtain ⟨i, rfl, hi', HB, HX, HP⟩ := hrel
    by_cases h1 : i < rows.length
    · have hi1 : (0 : Int) ≤ i := by omega
      have hi2 : (i : Int) < rows.length := by omega
      go_wp2
      go_loopw [6] (fun kv wr => ∃ k : Nat, kv = .int .i64 k ∧ k ≤ i ∧ Aside0 (Below w.heap.size w wr) ∧ Aside0 (wr.heap[w.heap.size]? = some (.cells #[.string nm, vc, .slice A2 cols.length c2, vf, vk] 27 (0, 0))) ∧ Aside0 (∀ k' : Nat, k' < k → rcmp (pick (rd_L3 rows i) cols) (pick (rd_L3 rows k') cols) ≠ 0)) (fun kv _ => i - (intOf kv).toNat)
      case atStart => exact ⟨0, rfl, Nat.zero_le _, HB, HX, ⟨fun _ h => by omega⟩⟩
      case round =>
        clear HB HX
        obtain ⟨k, rfl, hk', HB, HX, HQ⟩ := hrel
        by_cases h2 : k < i
        · have hk1 : (0 : Int) ≤ k := by omega
          have hk2 : (k : Int) < i := by omega
          have hk3 : (k : Int) < rows.length := by omega
          obtain ⟨xa, A3, c3, rfl, x0, hle3, hrow3⟩ := at_L3 HR.out i (by omega) (by omega)
          obtain ⟨ya, A4, c4, eya, y0, hle4, hrow4⟩ := at_L3 HR.out k (by omega) (by omega)
          obtain rfl : xa = ya := by injection eya
          rw [Int.toNat_natCast] at x0 y0
          replace x0 := pw_cell_below HB.out x0
          replace y0 := pw_cell_below HB.out y0
          have xbl := World.block_lt_of_cell? _ _ x0
          have ybl := World.block_lt_of_cell? _ _ y0
          have H3 := Aside0.mk (Kd.C_below hrow3 HB.out)
          have H4 := Aside0.mk (Kd.C_below hrow4 HB.out)
          have HCC := Aside0.mk (Kd.C_below HC.out HB.out)
          have t0 : wr.cell? ⟨w.heap.size, 0, none⟩ = some (.string nm) := by rw [blk_cell HX.out]; rfl
          have t1 : wr.cell? ⟨w.heap.size, 1, none⟩ = some vc := by rw [blk_cell HX.out]; rfl
          have t2 : wr.cell? ⟨w.heap.size, 2, none⟩ = some (.slice A2 cols.length c2) := by rw [blk_cell HX.out]; rfl
          have t3 : wr.cell? ⟨w.heap.size, 3, none⟩ = some vf := by rw [blk_cell HX.out]; rfl
          have t4 : wr.cell? ⟨w.heap.size, 4, none⟩ = some vk := by rw [blk_cell HX.out]; rfl
          have tl := World.block_lt_of_cell? _ _ t0
          clear hrow3 hrow4 eya
          go_wp2_with fail
          go_region_held3 (fun W => Below wr.heap.size wr W ∧ W.cell? ⟨w.heap.size, 0, none⟩ = some (.string nm) ∧ W.cell? ⟨w.heap.size, 1, none⟩ = some vc ∧ W.cell? ⟨w.heap.size, 2, none⟩ = some (.slice A2 cols.length c2) ∧ W.cell? ⟨w.heap.size, 3, none⟩ = some vf ∧ W.cell? ⟨w.heap.size, 4, none⟩ = some vk ∧ W.cell? (xa.add i) = some (.slice A3 (rd_L3 rows i).length c3) ∧ W.cell? (xa.add k) = some (.slice A4 (rd_L3 rows k).length c4))
            (first
              | (go_split_ands; refine ⟨?_, ?_, ?_, ?_, ?_, ?_, ?_, ?_⟩ <;> first | exact bthen (by assumption) hbc | exact pw_cell_below hbc (by assumption))
              | (go_split_ands; refine ⟨?_, ?_, ?_, ?_, ?_, ?_, ?_, ?_⟩ <;> first | exact below_drew (Below.refl _ _) | exact below_alloc (by assumption) _ | exact pw_cell_below (below_drew (Below.refl _ _)) (by assumption) | go_keep))
            (first
              | (go_at_call 22; refine (c37 _ _ _ (pick (rd_L3 rows i) cols) _ _ _ (pick (rd_L3 rows k) cols) _ (Kd.C_below HC5.out hb6) HC6.out).mono ?_; rintro e w7 ⟨rfl, hb7⟩; have hbc := hb7; have hbf : Below wr.heap.size wr w7 := bthen (And.left (by assumption)) hb7)
              | (go_at_call 31; have hq5 := HC5; refine (q31 nm vc vf vk A2 _ c2 cols A4 _ c4 (rd_L3 rows k) _ (Kd.C_below H4.out (And.left (by assumption))) (Kd.C_below HCC.out (And.left (by assumption))) hcl).mono ?_; rintro e w6 ⟨v6, rfl, hR6, hb6⟩; obtain ⟨A6, c6, rfl⟩ := Kd.R_slice hR6; have HC6 := Aside0.mk (Kd.R_reads' hR6).2.2; have hbc := hb6; clear hR6)
              | (go_at_call 31; refine (q31 nm vc vf vk A2 _ c2 cols A3 _ c3 (rd_L3 rows i) _ (Kd.C_below H3.out (And.left (by assumption))) (Kd.C_below HCC.out (And.left (by assumption))) hcl).mono ?_; rintro e w5 ⟨v5, rfl, hR5, hb5⟩; obtain ⟨A5, c5, rfl⟩ := Kd.R_slice hR5; have HC5 := Aside0.mk (Kd.R_reads' hR5).2.2; have hbc := hb5; clear hR5))
          all_goals
            have HB2 := Aside0.mk (bthen HB.out hbf)
            have HX2 := Aside0.mk (blk_below HX.out hbf)
            by_cases hq : rcmp (pick (rd_L3 rows i) cols) (pick (rd_L3 rows k) cols) = 0
            · have hz : (rcmp (pick (rd_L3 rows i) cols) (pick (rd_L3 rows k) cols) == 0) = true := by simp [hq]
              have HZ := Lib.hid hq
              clear hq
              go_wp2
              go_ret
              exact ⟨true, rfl, ⟨fun _ => ⟨i, k, h2, h1, HZ.out⟩, fun _ => rfl⟩, HB2.out⟩
            · have hz : (rcmp (pick (rd_L3 rows i) cols) (pick (rd_L3 rows k) cols) == 0) = false := by simp [hq]
              have HZ := Lib.hid hq
              clear hq
              go_wp2
              exact ⟨⟨k + 1, by go_num, h2, HB2, HX2, ⟨fun k' hk => by
                rcases Nat.lt_succ_iff_lt_or_eq.1 hk with h | h
                · exact HQ.out k' h
                · subst h; exact HZ.out⟩⟩, by simp [intOf]; omega⟩
        · have hk2 : ¬ (k : Int) < i := by omega
          have HQ2 := Lib.hid (show ∀ i' k' : Nat, i' < i + 1 → k' < i' → rcmp (pick (rd_L3 rows i') cols) (pick (rd_L3 rows k') cols) ≠ 0 from fun i' k' hi hk => by
            rcases Nat.lt_succ_iff_lt_or_eq.1 hi with h | h
            · exact HP.out i' k' h hk
            · subst h; exact HQ.out k' (by omega))
          go_wp2
          exact ⟨⟨i + 1, by go_num, h1, HB, HX, ⟨HQ2.out⟩⟩, by simp [intOf]; omega⟩
    · have hi2 : ¬ (i : Int) < rows.length := by omega
      go_wp2
      go_ret
      exact ⟨false, rfl, ⟨(fun h => by cases h), fun ⟨i', k', h3, h4, h5⟩ => absurd h5 (HP.out i' k' (by omega) h3)⟩, HB.out⟩
end Go.Proofs.YtiamihkfphmohaaGreatDoor.PA

namespace Go.Proofs.YtiamihkfphmohaaGreatDoor.PA
open Go.RowKit Go.Proofs.YtiamihkfphmohaaGreatDoorW.PrintWords Go.Proofs.YtiamihkfphmohaaGreatDoorW.PrintLast Go.Proofs.YtiamihkfphmohaaGreatDoorW.PrintMore

/-! ### Instants with two rows of one key, plainly -/
theorem perS_cons (cols : List Int) (x : S58) (l : List S58) (s : List UInt8) : perS cols (x :: l) s = if encK (pick x.f0 cols) = s then x.f1 :: perS cols l s else perS cols l s := by
  unfold perS
  by_cases h : encK (pick x.f0 cols) = s <;> simp [h]
theorem cnt_cons (p : S50) (l : List S50) (t : Int) : cnt (p :: l) t = (if pc p t then 1 else 0) + cnt l t := rfl
theorem cnt_zero {cols : List Int} {l : List S58} {s : List UInt8} {t : Int} : cnt (perS cols l s) t = 0 ↔ ∀ y ∈ l, pc y.f1 t = true → encK (pick y.f0 cols) ≠ s := by
  induction l with
  | nil => exact ⟨fun _ y hy => by simp at hy, fun _ => rfl⟩
  | cons x l ih =>
    rw [perS_cons]
    by_cases h : encK (pick x.f0 cols) = s
    · rw [if_pos h, cnt_cons]
      have hn := cnt_nonneg (perS cols l s) t
      by_cases hp : pc x.f1 t = true
      · rw [if_pos hp]
        exact ⟨fun h0 => by omega, fun h0 => absurd h (h0 x (List.mem_cons_self ..) hp)⟩
      · rw [if_neg hp, Int.zero_add, ih]
        refine ⟨fun h0 y hy hpy => ?_, fun h0 y hy => h0 y (List.mem_cons_of_mem _ hy)⟩
        rcases List.mem_cons.1 hy with rfl | hy
        · exact absurd hpy hp
        · exact h0 y hy hpy
    · rw [if_neg h, ih]
      refine ⟨fun h0 y hy hpy => ?_, fun h0 y hy => h0 y (List.mem_cons_of_mem _ hy)⟩
      rcases List.mem_cons.1 hy with rfl | hy
      · exact h
      · exact h0 y hy hpy
theorem cnt_pairwise {cols : List Int} {l : List S58} {t : Int} : (∀ s, ¬ 2 ≤ cnt (perS cols l s) t) ↔ (l.filter (fun x => pc x.f1 t)).Pairwise (fun x y => encK (pick x.f0 cols) ≠ encK (pick y.f0 cols)) := by
  induction l with
  | nil => exact ⟨fun _ => List.Pairwise.nil, fun _ s h => by simp [perS, cnt] at h⟩
  | cons x l ih =>
    by_cases hp : pc x.f1 t = true
    · rw [List.filter_cons_of_pos (p := fun x : S58 => pc x.f1 t) hp, List.pairwise_cons, ← ih]
      constructor
      · intro h
        refine ⟨fun y hy he => ?_, fun s hs => h s ?_⟩
        · have hy' := List.mem_filter.1 hy
          have h1 := h (encK (pick x.f0 cols))
          rw [perS_cons, if_pos rfl, cnt_cons, if_pos hp] at h1
          have h2 := cnt_nonneg (perS cols l (encK (pick x.f0 cols))) t
          have h3 : cnt (perS cols l (encK (pick x.f0 cols))) t = 0 := by omega
          exact cnt_zero.1 h3 y hy'.1 hy'.2 he.symm
        · rw [perS_cons]
          split
          · rw [cnt_cons]; split <;> omega
          · exact hs
      · rintro ⟨h1, h2⟩ s hs
        rw [perS_cons] at hs
        split at hs
        · rename_i he
          rw [cnt_cons, if_pos hp] at hs
          have h3 : cnt (perS cols l s) t = 0 := cnt_zero.2 (fun y hy hpy hq => h1 y (List.mem_filter.2 ⟨hy, hpy⟩) (he.trans hq.symm))
          omega
        · exact h2 s hs
    · rw [List.filter_cons_of_neg (p := fun x : S58 => pc x.f1 t) hp, ← ih]
      refine forall_congr' fun s => ?_
      rw [perS_cons]
      split
      · rw [cnt_cons, if_neg hp, Int.zero_add]
      · rfl
/-- Two rows of one key at an instant. -/
def Twice (cols : List Int) (l : List S58) (t : Int) : Prop := ∃ s, 2 ≤ cnt (perS cols l s) t
theorem dbl_pairwise {cols : List Int} {rows : List (List S82)} : ¬ dbl cols rows ↔ rows.Pairwise (fun a b => pick a cols ≠ pick b cols) := by
  rw [List.pairwise_iff_getElem]
  constructor
  · intro h i j hi hj hij he
    refine h ⟨j, i, hij, hj, ?_⟩
    have e1 : rd_L3 rows i = rows[i] := by simp [rd_L3, hi]
    have e2 : rd_L3 rows j = rows[j] := by simp [rd_L3, hj]
    rw [e1, e2]
    exact (rcmp_ord.eq0 _ _).2 he.symm
  · rintro h ⟨i, k, h1, h2, h3⟩
    have e1 : rd_L3 rows i = rows[i] := by simp [rd_L3, h2]
    have e2 : rd_L3 rows k = rows[k]'(by omega) := by simp [rd_L3, (show k < rows.length by omega)]
    rw [e1, e2] at h3
    exact h k i (by omega) h2 h1 ((rcmp_ord.eq0 _ _).1 h3).symm
theorem dbl_twice {cols : List Int} {l : List S58} {t : Int} {rows : List (List S82)} (h : rows.Perm (rowsAt l t)) : dbl cols rows ↔ Twice cols l t := by
  have h1 : ¬ dbl cols rows ↔ ¬ Twice cols l t := by
    rw [dbl_pairwise, h.pairwise_iff (fun {a b} hab => Ne.symm hab)]
    unfold rowsAt Twice
    rw [List.pairwise_map, not_exists, cnt_pairwise]
    constructor
    · intro h
      exact h.imp (fun hab he => hab (encK_inj he))
    · intro h
      exact h.imp (fun hab he => hab (by rw [he]))
  exact ⟨fun h => Classical.byContradiction fun hn => (h1.2 hn) h, fun h => Classical.byContradiction fun hn => (h1.1 hn) h⟩
theorem perS_congr {cols : List Int} {l : List S58} {p t : Int} (h : ∀ x ∈ l, pc x.f1 p = pc x.f1 t) (s : List UInt8) : cnt (perS cols l s) p = cnt (perS cols l s) t := by
  induction l with
  | nil => rfl
  | cons x l ih =>
    rw [perS_cons]
    have h2 := ih (fun y hy => h y (List.mem_cons_of_mem _ hy))
    split
    · rw [cnt_cons, cnt_cons, h x (List.mem_cons_self ..), h2]
    · exact h2
theorem twice_in {cols : List Int} {l : List S58} {t : Int} (h : Twice cols l t) : 0 ≤ t ∧ t < 1099511627776 := by
  obtain ⟨s, hs⟩ := h
  have h1 : ¬ cnt (perS cols l s) t = 0 := by omega
  rw [cnt_zero] at h1
  have h2 : ∃ y ∈ l, pc y.f1 t = true := by
    apply Classical.byContradiction
    intro hc
    exact h1 (fun y hy hpy => absurd ⟨y, hy, hpy⟩ hc)
  obtain ⟨y, _, hy⟩ := h2
  have := pc_iff.1 hy
  omega
theorem holds_twice {cols : List Int} {l : List S58} : HoldsP cols l ↔ ∀ t, ¬ Twice cols l t := by
  constructor
  · rintro h t ht
    have hd := twice_in ht
    obtain ⟨s, hs⟩ := ht
    exact h s t hd.1 hd.2 hs
  · intro h s t _ _ hc
    exact h t ⟨s, hc⟩
/-! ### The points -/
theorem pts_mem {l : List S58} {z : Int} : z ∈ pts l ↔ z = 0 ∨ ∃ x ∈ l, pv x.f1 = true ∧ (z = x.f1.f0 ∨ (z = x.f1.f1 ∧ z < 1099511627776)) := by
  have : ∀ (l : List S58) (acc : List Int), z ∈ l.foldl ptsStep acc ↔ z ∈ acc ∨ ∃ x ∈ l, pv x.f1 = true ∧ (z = x.f1.f0 ∨ (z = x.f1.f1 ∧ z < 1099511627776)) := by
    intro l
    induction l with
    | nil => intro acc; simp
    | cons x l ih =>
      intro acc
      rw [List.foldl_cons, ih]
      have hstep : z ∈ ptsStep acc x ↔ z ∈ acc ∨ (pv x.f1 = true ∧ (z = x.f1.f0 ∨ (z = x.f1.f1 ∧ z < 1099511627776))) := by
        unfold ptsStep
        by_cases hv : pv x.f1 = true
        · rw [if_pos hv]
          by_cases hf : x.f1.f1 < 1099511627776
          · rw [if_pos hf, insI_mem, insI_mem]
            constructor
            · rintro (h | h | h)
              · exact .inr ⟨hv, .inr ⟨h, by omega⟩⟩
              · exact .inr ⟨hv, .inl h⟩
              · exact .inl h
            · rintro (h | ⟨_, h | ⟨h, _⟩⟩)
              · exact .inr (.inr h)
              · exact .inr (.inl h)
              · exact .inl h
          · rw [if_neg hf, insI_mem]
            constructor
            · rintro (h | h)
              · exact .inr ⟨hv, .inl h⟩
              · exact .inl h
            · rintro (h | ⟨_, h | ⟨h, h2⟩⟩)
              · exact .inr h
              · exact .inl h
              · omega
        · rw [if_neg hv]
          exact ⟨.inl, fun h => h.elim id (fun h => absurd h.1 hv)⟩
      rw [hstep]
      constructor
      · rintro ((h | h) | ⟨y, hy, h⟩)
        · exact .inl h
        · exact .inr ⟨x, List.mem_cons_self .., h⟩
        · exact .inr ⟨y, List.mem_cons_of_mem _ hy, h⟩
      · rintro (h | ⟨y, hy, h⟩)
        · exact .inl (.inl h)
        · rcases List.mem_cons.1 hy with rfl | hy
          · exact .inl (.inr h)
          · exact .inr ⟨y, hy, h⟩
  rw [pts, this]
  simp
theorem greatest {t : Int} : ∀ (ps : List Int), (∃ p ∈ ps, p ≤ t) → ∃ p ∈ ps, p ≤ t ∧ ∀ q ∈ ps, q ≤ t → q ≤ p
  | [], h => by obtain ⟨p, hp, _⟩ := h; simp at hp
  | z :: ps, h => by
    by_cases hr : ∃ p ∈ ps, p ≤ t
    · obtain ⟨p, hp, hpt, hmax⟩ := greatest ps hr
      by_cases hz : z ≤ t ∧ p ≤ z
      · refine ⟨z, List.mem_cons_self .., hz.1, fun q hq hqt => ?_⟩
        rcases List.mem_cons.1 hq with rfl | hq
        · exact Int.le_refl _
        · exact Int.le_trans (hmax q hq hqt) hz.2
      · refine ⟨p, List.mem_cons_of_mem _ hp, hpt, fun q hq hqt => ?_⟩
        rcases List.mem_cons.1 hq with rfl | hq
        · omega
        · exact hmax q hq hqt
    · obtain ⟨p, hp, hpt⟩ := h
      rcases List.mem_cons.1 hp with rfl | hp
      · refine ⟨p, List.mem_cons_self .., hpt, fun q hq hqt => ?_⟩
        rcases List.mem_cons.1 hq with rfl | hq
        · exact Int.le_refl _
        · exact absurd ⟨q, hq, hqt⟩ hr
      · exact absurd ⟨p, hp, hpt⟩ hr
/-- Snapshots change at the points alone. -/
theorem point_of {l : List S58} {t : Int} (h0 : 0 ≤ t) (h1 : t < 1099511627776) : ∃ p ∈ pts l, ∀ x ∈ l, pc x.f1 p = pc x.f1 t := by
  obtain ⟨p, hp, hpt, hmax⟩ := greatest (t := t) (pts l) ⟨0, pts_mem.2 (.inl rfl), h0⟩
  refine ⟨p, hp, fun x hx => ?_⟩
  rw [Bool.eq_iff_iff, pc_iff, pc_iff]
  constructor
  · rintro ⟨hv, h2, h3⟩
    refine ⟨hv, by omega, ?_⟩
    apply Classical.byContradiction
    intro hn
    have := hmax x.f1.f1 (pts_mem.2 (.inr ⟨x, hx, pv_iff.2 hv, .inr ⟨rfl, by omega⟩⟩)) (by omega)
    omega
  · rintro ⟨hv, h2, h3⟩
    have := hmax x.f1.f0 (pts_mem.2 (.inr ⟨x, hx, pv_iff.2 hv, .inl rfl⟩)) h2
    exact ⟨hv, this, by omega⟩
theorem holds_points {cols : List Int} {l : List S58} : HoldsP cols l ↔ ∀ p ∈ pts l, ¬ Twice cols l p := by
  rw [holds_twice]
  refine ⟨fun h p _ => h p, fun h t ht => ?_⟩
  have hd := twice_in ht
  obtain ⟨p, hp, hc⟩ := point_of (l := l) hd.1 hd.2
  refine h p hp ?_
  obtain ⟨s, hs⟩ := ht
  exact ⟨s, by rw [perS_congr hc]; exact hs⟩
/-! ### The violations -/
theorem built_at {gs : List S159} {facts : List S58} (h : BuiltR OfSp gs facts) {r : List S82} {t : Int} (ht : 0 ≤ t ∧ t < 1099511627776) : (∃ x ∈ facts, x.f0 = r ∧ pc x.f1 t = true) ↔ ∃ g ∈ gs, g.f0 = r ∧ sc g.f1 t = true := by
  induction gs generalizing facts with
  | nil =>
    have h : facts = [] := h
    subst h
    simp
  | cons g gs ih =>
    obtain ⟨sp, rest, hsp, rfl, hr⟩ := h
    have h1 := ih hr
    have h2 : sc sp t = sc g.f1 t := by rw [hsp.2 t, decide_eq_true ht, Bool.true_and]
    constructor
    · rintro ⟨x, hx, rfl, hp⟩
      rcases List.mem_append.1 hx with hx | hx
      · obtain ⟨p, hps, rfl⟩ := List.mem_map.1 hx
        exact ⟨g, List.mem_cons_self .., rfl, by rw [← h2, sc_iff]; exact ⟨p, hps, hp⟩⟩
      · obtain ⟨g', hg', h3⟩ := h1.1 ⟨x, hx, rfl, hp⟩
        exact ⟨g', List.mem_cons_of_mem _ hg', h3⟩
    · rintro ⟨g', hg', rfl, hs⟩
      rcases List.mem_cons.1 hg' with rfl | hg'
      · rw [← h2, sc_iff] at hs
        obtain ⟨p, hps, hp⟩ := hs
        exact ⟨⟨g'.f0, p⟩, List.mem_append_left _ (List.mem_map.2 ⟨p, hps, rfl⟩), rfl, hp⟩
      · obtain ⟨x, hx, h3⟩ := h1.2 ⟨g', hg', rfl, hs⟩
        exact ⟨x, List.mem_append_right _ hx, h3⟩
theorem viol_at {nm : ByteArray} {cols : List Int} {l : List S58} {facts : List S58} {out : List S52} (h : ViolR nm (VSp cols l) facts out) {t : Int} (ht : 0 ≤ t ∧ t < 1099511627776) : (∃ v ∈ out, pc v.f4 t = true) ↔ ∃ x ∈ facts, pc x.f1 t = true ∧ 2 ≤ cnt (perS cols l (encK (pick x.f0 cols))) t := by
  induction facts generalizing out with
  | nil =>
    have h : out = [] := h
    subst h
    simp
  | cons x facts ih =>
    obtain ⟨sp, rest, ⟨cr, hcr, hok, hsp⟩, rfl, hr⟩ := h
    have h1 := ih hr
    have h2 : sc sp t = (pc x.f1 t && decide (2 ≤ cnt (perS cols l (encK (pick x.f0 cols))) t)) := by
      rw [hsp t, hcr.2.1 t, decide_eq_true ht, sc_cons, sc_nil, Bool.true_and, Bool.true_and, Bool.or_false]
    constructor
    · rintro ⟨v, hv, hp⟩
      rcases List.mem_append.1 hv with hv | hv
      · obtain ⟨p, hps, rfl⟩ := List.mem_map.1 hv
        have h3 : sc sp t = true := sc_iff.2 ⟨p, hps, hp⟩
        rw [h2, Bool.and_eq_true] at h3
        exact ⟨x, List.mem_cons_self .., h3.1, of_decide_eq_true h3.2⟩
      · obtain ⟨y, hy, h3⟩ := h1.1 ⟨v, hv, hp⟩
        exact ⟨y, List.mem_cons_of_mem _ hy, h3⟩
    · rintro ⟨y, hy, hp, hc⟩
      rcases List.mem_cons.1 hy with rfl | hy
      · have h3 : sc sp t = true := by rw [h2, hp, decide_eq_true hc]; rfl
        obtain ⟨p, hps, hpp⟩ := sc_iff.1 h3
        exact ⟨vio nm y.f0 p, List.mem_append_left _ (List.mem_map.2 ⟨p, hps, rfl⟩), hpp⟩
      · obtain ⟨v, hv, h3⟩ := h1.2 ⟨y, hy, hp, hc⟩
        exact ⟨v, List.mem_append_right _ hv, h3⟩
theorem gok_at {l : List S58} {gs : List S159} (h : GOK l gs) {r : List S82} {t : Int} : (∃ g ∈ gs, g.f0 = r ∧ sc g.f1 t = true) ↔ ∃ x ∈ l, x.f0 = r ∧ pc x.f1 t = true := by
  constructor
  · rintro ⟨g, hg, rfl, hs⟩
    rw [(h.1.2.1 g hg).1, sc_iff] at hs
    obtain ⟨p, hp, hpt⟩ := hs
    obtain ⟨x, hx, rfl⟩ := List.mem_map.1 hp
    have hx' := List.mem_filter.1 hx
    simp only [Bool.and_eq_true] at hx'
    exact ⟨x, hx'.1, req_iff.1 hx'.2.2, hpt⟩
  · rintro ⟨x, hx, rfl, hp⟩
    have hv : pv x.f1 = true := pv_iff.2 (pc_iff.1 hp).1
    obtain ⟨g, hg, he⟩ := h.1.2.2 x hx hv
    refine ⟨g, hg, he, ?_⟩
    rw [(h.1.2.1 g hg).1, sc_iff]
    refine ⟨x.f1, List.mem_map.2 ⟨x, List.mem_filter.2 ⟨hx, ?_⟩, rfl⟩, hp⟩
    rw [hv, req_iff.2 he.symm]
    rfl
/-- An instant lies in a violation exactly if it has two rows of one key. -/
theorem vio_twice {nm : ByteArray} {cols : List Int} {l : List S58} {gs : List S159} {facts : List S58} {out : List S52} (h1 : GOK l gs) (h2 : BuiltR OfSp gs facts) (h3 : ViolR nm (VSp cols l) facts out) {t : Int} : (∃ v ∈ out, pc v.f4 t = true) ↔ Twice cols l t := by
  by_cases ht : 0 ≤ t ∧ t < 1099511627776
  · rw [viol_at h3 ht]
    constructor
    · rintro ⟨x, _, _, hc⟩
      exact ⟨_, hc⟩
    · rintro ⟨s, hs⟩
      have h4 : ¬ cnt (perS cols l s) t = 0 := by omega
      rw [cnt_zero] at h4
      have h5 : ∃ y ∈ l, pc y.f1 t = true ∧ encK (pick y.f0 cols) = s := by
        apply Classical.byContradiction
        intro hc
        exact h4 (fun y hy hpy he => hc ⟨y, hy, hpy, he⟩)
      obtain ⟨y, hy, hpy, rfl⟩ := h5
      obtain ⟨x, hx, he, hp⟩ := (built_at h2 ht).2 ((gok_at h1).2 ⟨y, hy, rfl, hpy⟩)
      exact ⟨x, hx, hp, by rw [he]; exact hs⟩
  · constructor
    · rintro ⟨v, _, hp⟩
      have := pc_iff.1 hp
      omega
    · intro h
      exact absurd (twice_in h) ht
theorem viol_valid {nm : ByteArray} {cols : List Int} {l : List S58} {facts : List S58} {out : List S52} (h : ViolR nm (VSp cols l) facts out) : ∀ v ∈ out, pv v.f4 = true := by
  induction facts generalizing out with
  | nil =>
    have h : out = [] := h
    subst h
    simp
  | cons x facts ih =>
    obtain ⟨sp, rest, ⟨cr, hcr, hok, hsp⟩, rfl, hr⟩ := h
    intro v hv
    rcases List.mem_append.1 hv with hv | hv
    · obtain ⟨p, hps, rfl⟩ := List.mem_map.1 hv
      exact hok.1 p hps
    · exact ih hr v hv
theorem vio_none {nm : ByteArray} {cols : List Int} {l : List S58} {gs : List S159} {facts : List S58} {out : List S52} (h1 : GOK l gs) (h2 : BuiltR OfSp gs facts) (h3 : ViolR nm (VSp cols l) facts out) : HoldsP cols l ↔ out.length = 0 := by
  rw [holds_twice]
  constructor
  · intro h
    cases out with
    | nil => rfl
    | cons v out =>
      have hv := pv_iff.1 (viol_valid h3 v (List.mem_cons_self ..))
      exact absurd ((vio_twice h1 h2 h3).1 ⟨v, List.mem_cons_self .., pc_iff.2 ⟨hv, Int.le_refl _, hv.2.1⟩⟩) (h v.f4.f0)
  · intro h t ht
    obtain ⟨v, hv, _⟩ := (vio_twice h1 h2 h3).2 ht
    rw [List.eq_nil_of_length_eq_zero h] at hv
    simp at hv
end Go.Proofs.YtiamihkfphmohaaGreatDoor.PA
