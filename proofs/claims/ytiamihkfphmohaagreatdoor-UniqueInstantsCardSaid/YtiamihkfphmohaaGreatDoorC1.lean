import Derived.Shelf.SlSortCmp.QuietGrown
import Derived.Deep.RegionHeld3
import Derived.Lib.Hide
import Derived.WalkLawsBesides
import Derived.WalkSpells
import Derived.IntWalk
import Derived.Test.YtiamihkfphmohaaGreatDoorShelf
import Derived.Test.YtiamihkfphmohaaGreatDoorB2
set_option linter.unusedVariables false
set_option linter.unusedSimpArgs false

namespace Go.Proofs.YtiamihkfphmohaaGreatDoor.PA
open Go.RowKit Go.Proofs.YtiamihkfphmohaaGreatDoorW.PrintWords Go.Proofs.YtiamihkfphmohaaGreatDoorW.PrintLast Go.Proofs.YtiamihkfphmohaaGreatDoorW.PrintMore

open Go.Sort
attribute [local irreducible] Go.wpQuiet
def GoodTo (cols : List Int) (l : List S58) (ps : List Int) (i : Nat) (g : Bool) : Prop := g = true ↔ ∀ j : Nat, j < i → ¬ Twice cols l (rd ps j)
theorem goodTo_zero (cols : List Int) (l : List S58) (ps : List Int) : GoodTo cols l ps 0 true := ⟨fun _ _ h => by omega, fun _ => rfl⟩
theorem goodTo_keep {cols : List Int} {l : List S58} {ps : List Int} {i : Nat} (h : GoodTo cols l ps i false) : GoodTo cols l ps (i + 1) false := ⟨(fun h => by cases h), fun h2 => h.2 (fun j hj => h2 j (by omega))⟩
theorem goodTo_no {cols : List Int} {l : List S58} {ps : List Int} {i : Nat} (h : Twice cols l (rd ps i)) : GoodTo cols l ps (i + 1) false := ⟨(fun h => by cases h), fun h2 => absurd h (h2 i (by omega))⟩
theorem goodTo_yes {cols : List Int} {l : List S58} {ps : List Int} {i : Nat} (h0 : GoodTo cols l ps i true) (h : ¬ Twice cols l (rd ps i)) : GoodTo cols l ps (i + 1) true := ⟨fun _ j hj => by
  rcases Nat.lt_succ_iff_lt_or_eq.1 hj with h2 | h2
  · exact h0.1 rfl j h2
  · subst h2; exact h, fun _ => rfl⟩
theorem goodTo_all {cols : List Int} {l : List S58} {i : Nat} {g : Bool} (h : GoodTo cols l (pts l) i g) (hi : i = (pts l).length) : g = true ↔ HoldsP cols l := by
  subst hi
  refine Iff.trans h ?_
  rw [holds_points]
  constructor
  · intro h p hp
    obtain ⟨j, hj, rfl⟩ := List.getElem_of_mem hp
    have := h j hj
    simpa [Go.Proofs.YtiamihkfphmohaaGreatDoorW.PrintWords.rd, hj] using this
  · intro h j hj
    exact h _ (by simp [Go.Proofs.YtiamihkfphmohaaGreatDoorW.PrintWords.rd, hj])
def InTo (out : List S52) (t : Int) (i : Nat) (b : Bool) : Prop := b = true ↔ ∃ j : Nat, j < i ∧ pc (rd_T52 out j).f4 t = true
theorem inTo_zero (out : List S52) (t : Int) : InTo out t 0 false := ⟨(fun h => by cases h), fun ⟨_, h, _⟩ => by omega⟩
theorem inTo_keep {out : List S52} {t : Int} {i : Nat} (h : InTo out t i true) : InTo out t (i + 1) true := by
  obtain ⟨j, hj, hp⟩ := h.1 rfl
  exact ⟨fun _ => ⟨j, by omega, hp⟩, fun _ => rfl⟩
theorem inTo_new {out : List S52} {t : Int} {i : Nat} (h : InTo out t i false) : InTo out t (i + 1) (pc (rd_T52 out i).f4 t) := by
  constructor
  · intro hp
    exact ⟨i, by omega, hp⟩
  · rintro ⟨j, hj, hp⟩
    rcases Nat.lt_succ_iff_lt_or_eq.1 hj with h2 | h2
    · exact absurd (h.2 ⟨j, h2, hp⟩) (by simp)
    · subst h2; exact hp
theorem inTo_all {out : List S52} {t : Int} {i : Nat} {b : Bool} (h : InTo out t i b) (hi : i = out.length) : b = true ↔ ∃ v ∈ out, pc v.f4 t = true := by
  subst hi
  refine Iff.trans h ?_
  constructor
  · rintro ⟨j, hj, hp⟩
    exact ⟨_, by simp [rd_T52, hj], hp⟩
  · rintro ⟨v, hv, hp⟩
    obtain ⟨j, hj, rfl⟩ := List.getElem_of_mem hv
    exact ⟨j, hj, by simpa [rd_T52, hj] using hp⟩
set_option maxHeartbeats 8000000 in
set_option maxRecDepth 100000 in
/-- UniqueInstants returns true. -/
theorem c5 (t : Tbl) (A1 A2 A3 A4 : Option Addr) (c1 c2 c3 c4 : Nat) (l : List S58) (A : Option Addr) (c : Nat) (at_ : Int) (w : World) (hT : TK w t A1 A2 A3 A4 c1 c2 c3 c4) (hI : TIn t) (hL : k58.C w A l.length l) (hF : ∀ x ∈ l, FIn x) (hTb : TabOK w) : Calls Tryz.prog 5 #[.agg #[.string t.nm, .slice A1 t.cols.length c1, .slice A2 t.key.length c2, .slice A3 t.fors.length c3, .slice A4 t.chks.length c4], .slice A l.length c, .int .i64 at_] w fun e w' => e = .returned (.bool true) ∧ Below w.heap.size w w' := by
  have mixed := mixedT
  have HT := Aside0.mk hT
  have HI := Lib.hid hI
  have HL := Aside0.mk hL
  have HF := Lib.hid hF
  have HTB := Aside0.mk hTb
  have hpt := blk_new w (.cells #[.string t.nm, .slice A1 t.cols.length c1, .slice A2 t.key.length c2, .slice A3 t.fors.length c3, .slice A4 t.chks.length c4] 27)
  clear hT hI hL hF hTb
  go_enter Tryz.func5, Tryz.ntmps5
  go_wp2_with fail
  refine (q13 t A1 A2 A3 A4 c1 c2 c3 c4 l A c _ (HT.out.below (below_alloc (Below.refl _ _) _)) HI.out (Kd.C_below HL.out (below_alloc (Below.refl _ _) _)) HF.out).mono ?_
  rintro e w1 ⟨b1, rfl, h1, hb1⟩
  have HB := Aside0.mk (bel1 hb1)
  have HX := Aside0.mk (blk_below hpt hb1)
  have HP := Lib.hid h1
  clear hpt hb1 h1
  cases b1 with
  | false =>
    go_wp2_with fail
    refine (c14 _ (tab_below HTB.out HB.out)).mono ?_
    rintro e w2 ⟨rfl, hb2⟩
    have HB2 := Aside0.mk (bthen HB.out hb2)
    clear hb2
    go_wp2
    go_ret
    exact ⟨rfl, HB2.out⟩
  | true =>
  replace HP := Lib.hid (HP.out rfl)
  have hll : l.length ≤ 16 := by have := HP.out.few.1; omega
  have hkl : t.key.length ≤ 1000000 := by have := HP.out.bel.key; have := HP.out.cols; omega
  have hkl2 : t.key.length ≤ 1000 := by have := HP.out.bel.key; have := HP.out.cols; omega
  go_wp2_with fail
  refine (q26 A _ c l _ (Kd.C_below HL.out HB.out) (by omega)).mono ?_
  rintro e wa ⟨AP, cp, rfl, hCP, hba⟩
  have HB1 := Aside0.mk (bthen HB.out hba)
  have HX1 := Aside0.mk (blk_below HX.out hba)
  have HPS := Aside0.mk hCP
  have hpl : (pts l).length ≤ 100 := by have := pts_len l; omega
  clear HB HX hba hCP
  generalize hps : pts l = ps at *
  have HPE := Lib.hid hps
  clear hps
  go_wp2
  go_loopw [8, 9] (fun gv iv wr => ∃ (i : Nat) (g : Bool), gv = .bool g ∧ iv = .int .i64 i ∧ i ≤ ps.length ∧ Aside0 (Below w.heap.size w wr) ∧ Aside0 (wr.heap[w.heap.size]? = some (.cells #[.string t.nm, .slice A1 t.cols.length c1, .slice A2 t.key.length c2, .slice A3 t.fors.length c3, .slice A4 t.chks.length c4] 27 (0, 0))) ∧ Aside0 (Below wa.heap.size wa wr) ∧ Aside0 (GoodTo t.key l ps i g)) (fun _ iv _ => ps.length - (intOf iv).toNat)
  case atStart => exact ⟨0, true, rfl, rfl, Nat.zero_le _, HB1, HX1, ⟨Below.refl _ _⟩, ⟨goodTo_zero _ _ _⟩⟩
  case round =>
    clear HB1 HX1
    obtain ⟨i, g, rfl, rfl, hi', HB, HX, HBA, HG⟩ := hrel
    have t0 : (wr).cell? ⟨w.heap.size, 0, none⟩ = some (.string t.nm) := by rw [blk_cell HX.out]; rfl
    have t1 : (wr).cell? ⟨w.heap.size, 1, none⟩ = some (.slice A1 t.cols.length c1) := by rw [blk_cell HX.out]; rfl
    have t2 : (wr).cell? ⟨w.heap.size, 2, none⟩ = some (.slice A2 t.key.length c2) := by rw [blk_cell HX.out]; rfl
    have t3 : (wr).cell? ⟨w.heap.size, 3, none⟩ = some (.slice A3 t.fors.length c3) := by rw [blk_cell HX.out]; rfl
    have t4 : (wr).cell? ⟨w.heap.size, 4, none⟩ = some (.slice A4 t.chks.length c4) := by rw [blk_cell HX.out]; rfl
    have tl := World.block_lt_of_cell? _ _ t1
    by_cases h1 : i < ps.length
    · have hi1 : (0 : Int) ≤ i := by omega
      have hi2 : (i : Int) < ps.length := by omega
      obtain ⟨ya, eya, y0⟩ := Kd.at_int (Kd.C_below HPS.out HBA.out) i (by omega) (by omega)
      subst eya
      rw [Int.toNat_natCast] at y0
      have ybl := World.block_lt_of_cell? _ _ y0
      cases g with
      | false =>
        have HG2 := Aside0.mk (goodTo_keep HG.out)
        go_wp2_with fail
        have g_0 := cell_grown (a := ⟨w.heap.size, 0, none⟩) tl t0
        have g_1 := cell_grown (a := ⟨w.heap.size, 1, none⟩) tl t1
        have g_2 := cell_grown (a := ⟨w.heap.size, 2, none⟩) tl t2
        have g_3 := cell_grown (a := ⟨w.heap.size, 3, none⟩) tl t3
        have g_4 := cell_grown (a := ⟨w.heap.size, 4, none⟩) tl t4
        have g_5 := cell_grown ybl y0
        clear t0 t1 t2 t3 t4 y0
        go_quiet_grown (fail)
        have hbg := below_gr wr nq osq
        have HB2 := Aside0.mk (bthen HB.out hbg)
        have HX2 := Aside0.mk (blk_below HX.out hbg)
        have HBA2 := Aside0.mk (bthen HBA.out hbg)
        clear g_0 g_1 g_2 g_3 g_4 g_5 hbg
        generalize grow (wr.drewN nq) osq = w2 at *
        go_wp2
        exact ⟨⟨i + 1, false, rfl, by go_num, h1, HB2, HX2, HBA2, HG2⟩, by simp [intOf]; omega⟩
      | true =>
        by_cases hw : Twice t.key l (rd ps i)
        · have HW := Lib.hid hw
          have HG2 := Aside0.mk (goodTo_no HW.out)
          clear hw
          go_wp2_with fail
          go_region_held3 (fun W => Below wr.heap.size wr W ∧ W.cell? ⟨w.heap.size, 0, none⟩ = some (.string t.nm) ∧ W.cell? ⟨w.heap.size, 1, none⟩ = some (.slice A1 t.cols.length c1) ∧ W.cell? ⟨w.heap.size, 2, none⟩ = some (.slice A2 t.key.length c2) ∧ W.cell? ⟨w.heap.size, 3, none⟩ = some (.slice A3 t.fors.length c3) ∧ W.cell? ⟨w.heap.size, 4, none⟩ = some (.slice A4 t.chks.length c4) ∧ W.cell? (ya.add i) = some (.int .i64 (rd ps i)))
            (first
              | (go_split_ands; refine ⟨?_, ?_, ?_, ?_, ?_, ?_, ?_⟩ <;> first | exact bthen (by assumption) hbc | exact pw_cell_below hbc (by assumption))
              | (go_split_ands; refine ⟨?_, ?_, ?_, ?_, ?_, ?_, ?_⟩ <;> first | exact below_drew (Below.refl _ _) | exact below_alloc (by assumption) _ | exact pw_cell_below (below_drew (Below.refl _ _)) (by assumption) | go_keep))
            (first
              | (go_at_call 27; refine (q27 _ _ _ _ _ _ _ t.key A6 _ c6 rows _ (HT.out.below (bthen HB.out (And.left (by assumption)))).key hkl HR6.out HLN.out).mono ?_; rintro e w4 ⟨d, rfl, hd, hb4⟩; have hd2 := hd.trans (dbl_twice HS6.out.1); obtain rfl : d = true := hd2.2 HW.out; have hbc := hb4; clear hd hd2; have hbf : Below wr.heap.size wr w4 := bthen (And.left (by assumption)) hb4)
              | (go_at_call 28; refine (q28 A _ c l (rd ps i) _ (Kd.C_below HL.out (bthen HB.out (And.left (by assumption)))) (by omega) HP.out.rows.len).mono ?_; rintro e w3 ⟨A6, c6, rows, rfl, hc6, hp6, hC6, hb3⟩; have hbc := hb3; have HR6 := Aside0.mk hC6; have HS6 := Aside0.mk hp6; have HLN := Lib.hid (show rows.length ≤ 1000000 from by rw [hp6.1.length_eq]; have := rowsAt_len l (rd ps i); omega); clear hC6 hp6))
          all_goals
            have HB2 := Aside0.mk (bthen HB.out hbf)
            have HX2 := Aside0.mk (blk_below HX.out hbf)
            have HBA2 := Aside0.mk (bthen HBA.out hbf)
            go_wp2
            exact ⟨⟨i + 1, false, rfl, by go_num, h1, HB2, HX2, HBA2, HG2⟩, by simp [intOf]; omega⟩
        · have HW := Lib.hid hw
          have HG2 := Aside0.mk (goodTo_yes HG.out HW.out)
          clear hw
          go_wp2_with fail
          go_region_held3 (fun W => Below wr.heap.size wr W ∧ W.cell? ⟨w.heap.size, 0, none⟩ = some (.string t.nm) ∧ W.cell? ⟨w.heap.size, 1, none⟩ = some (.slice A1 t.cols.length c1) ∧ W.cell? ⟨w.heap.size, 2, none⟩ = some (.slice A2 t.key.length c2) ∧ W.cell? ⟨w.heap.size, 3, none⟩ = some (.slice A3 t.fors.length c3) ∧ W.cell? ⟨w.heap.size, 4, none⟩ = some (.slice A4 t.chks.length c4) ∧ W.cell? (ya.add i) = some (.int .i64 (rd ps i)))
            (first
              | (go_split_ands; refine ⟨?_, ?_, ?_, ?_, ?_, ?_, ?_⟩ <;> first | exact bthen (by assumption) hbc | exact pw_cell_below hbc (by assumption))
              | (go_split_ands; refine ⟨?_, ?_, ?_, ?_, ?_, ?_, ?_⟩ <;> first | exact below_drew (Below.refl _ _) | exact below_alloc (by assumption) _ | exact pw_cell_below (below_drew (Below.refl _ _)) (by assumption) | go_keep))
            (first
              | (go_at_call 27; refine (q27 _ _ _ _ _ _ _ t.key A6 _ c6 rows _ (HT.out.below (bthen HB.out (And.left (by assumption)))).key hkl HR6.out HLN.out).mono ?_; rintro e w4 ⟨d, rfl, hd, hb4⟩; have hd2 := hd.trans (dbl_twice HS6.out.1); obtain rfl : d = false := (by cases d; rfl; exact absurd (hd2.1 rfl) HW.out); have hbc := hb4; clear hd hd2; have hbf : Below wr.heap.size wr w4 := bthen (And.left (by assumption)) hb4)
              | (go_at_call 28; refine (q28 A _ c l (rd ps i) _ (Kd.C_below HL.out (bthen HB.out (And.left (by assumption)))) (by omega) HP.out.rows.len).mono ?_; rintro e w3 ⟨A6, c6, rows, rfl, hc6, hp6, hC6, hb3⟩; have hbc := hb3; have HR6 := Aside0.mk hC6; have HS6 := Aside0.mk hp6; have HLN := Lib.hid (show rows.length ≤ 1000000 from by rw [hp6.1.length_eq]; have := rowsAt_len l (rd ps i); omega); clear hC6 hp6))
          all_goals
            have HB2 := Aside0.mk (bthen HB.out hbf)
            have HX2 := Aside0.mk (blk_below HX.out hbf)
            have HBA2 := Aside0.mk (bthen HBA.out hbf)
            go_wp2
            exact ⟨⟨i + 1, true, rfl, by go_num, h1, HB2, HX2, HBA2, HG2⟩, by simp [intOf]; omega⟩
    · have hi2 : ¬ (i : Int) < ps.length := by omega
      have HGH := Aside0.mk (show g = true ↔ HoldsP t.key l from goodTo_all (i := i) (by rw [HPE.out]; exact HG.out) (by rw [HPE.out]; omega))
      clear HG
      go_wp2_with fail
      refine (c33 _ _ _ _ _ _ _ t.key _ _ _ l _ (HT.out.below HB.out).key hkl (Kd.C_below HL.out HB.out) (by omega) (tab_below HTB.out HB.out) (HP.out.rows.keys hkl2) HP.out.rows.all HP.out.rows.len).mono ?_
      rintro e w3 ⟨v3, gs, facts, out, rfl, hg1, hg2, hg3, hol, hN, hb3⟩
      obtain ⟨A7, c7, rfl, hc7, hC7⟩ := Kd.N_reads hN
      have HB3 := Aside0.mk (bthen HB.out hb3)
      have HX3 := Aside0.mk (blk_below HX.out hb3)
      have HV1 := Aside0.mk (show (∃ v ∈ out, pc v.f4 at_ = true) ↔ Twice t.key l at_ from vio_twice hg1 hg2 hg3)
      have HV2 := Aside0.mk (show HoldsP t.key l ↔ out.length = 0 from vio_none hg1 hg2 hg3)
      have HC7 := Aside0.mk hC7
      clear HB HX hb3 hN hC7 hg1 hg2 hg3 HBA t0 t1 t2 t3 t4 tl hi2 h1 hi'
      go_wp2
      go_loopw [11, 12] (fun bv jv wr => ∃ (j : Nat) (b : Bool), bv = .bool b ∧ jv = .int .i64 j ∧ j ≤ out.length ∧ Aside0 (Below w.heap.size w wr) ∧ Aside0 (wr.heap[w.heap.size]? = some (.cells #[.string t.nm, .slice A1 t.cols.length c1, .slice A2 t.key.length c2, .slice A3 t.fors.length c3, .slice A4 t.chks.length c4] 27 (0, 0))) ∧ Aside0 (Below w3.heap.size w3 wr) ∧ Aside0 (InTo out at_ j b)) (fun _ jv _ => out.length - (intOf jv).toNat)
      case atStart => exact ⟨0, false, rfl, rfl, Nat.zero_le _, HB3, HX3, ⟨Below.refl _ _⟩, ⟨inTo_zero _ _⟩⟩
      case round =>
        clear HB3 HX3
        obtain ⟨j, b, rfl, rfl, hj', HB, HX, HBA, HG⟩ := hrel
        by_cases h1 : j < out.length
        · have hj1 : (0 : Int) ≤ j := by omega
          have hj2 : (j : Int) < out.length := by omega
          obtain ⟨xa, A8, c8, exa, x0, x1, x2, x3, x4, x5, _, _⟩ := at_T52 (Kd.C_below HC7.out HBA.out) j (by omega) (by omega)
          subst exa
          rw [Int.toNat_natCast] at x0 x1 x2 x3 x4 x5
          have xbl := World.block_lt_of_cell? _ _ x0
          cases b with
          | true =>
            have HG2 := Aside0.mk (inTo_keep HG.out)
            go_wp2
            exact ⟨⟨j + 1, true, rfl, by go_num, h1, HB, HX, HBA, HG2⟩, by simp [intOf]; omega⟩
          | false =>
            have HG2 := Aside0.mk (inTo_new HG.out)
            go_wp2_with fail
            refine (c44 _ _ _ _).mono ?_
            rintro e w4 ⟨rfl, hb4⟩
            have HB2 := Aside0.mk (bthen HB.out hb4)
            have HX2 := Aside0.mk (blk_below HX.out hb4)
            have HBA2 := Aside0.mk (bthen HBA.out hb4)
            clear hb4
            go_wp2
            exact ⟨⟨j + 1, _, rfl, by go_num, h1, HB2, HX2, HBA2, HG2⟩, by simp [intOf]; omega⟩
        · have hj2 : ¬ (j : Int) < out.length := by omega
          have HIN := Aside0.mk ((inTo_all HG.out (by omega)).trans HV1.out)
          clear HG HV1 HBA
          have t0 : (wr).cell? ⟨w.heap.size, 0, none⟩ = some (.string t.nm) := by rw [blk_cell HX.out]; rfl
          have t1 : (wr).cell? ⟨w.heap.size, 1, none⟩ = some (.slice A1 t.cols.length c1) := by rw [blk_cell HX.out]; rfl
          have t2 : (wr).cell? ⟨w.heap.size, 2, none⟩ = some (.slice A2 t.key.length c2) := by rw [blk_cell HX.out]; rfl
          have t3 : (wr).cell? ⟨w.heap.size, 3, none⟩ = some (.slice A3 t.fors.length c3) := by rw [blk_cell HX.out]; rfl
          have t4 : (wr).cell? ⟨w.heap.size, 4, none⟩ = some (.slice A4 t.chks.length c4) := by rw [blk_cell HX.out]; rfl
          have tl := World.block_lt_of_cell? _ _ t1
          by_cases hz : out.length = 0
          · have hz1 : ((out.length : Int) == 0) = true := by simp [hz]
            have HH := Aside0.mk (HV2.out.2 hz)
            obtain rfl : g = true := HGH.out.2 HH.out
            have HZ := Lib.hid hz
            clear hz HGH HV2
            cases b with
            | true =>
              have HD := Aside0.mk (HIN.out.1 rfl)
              go_wp2_with fail
              go_region_held3 (fun W => Below wr.heap.size wr W ∧ W.cell? ⟨w.heap.size, 0, none⟩ = some (.string t.nm) ∧ W.cell? ⟨w.heap.size, 1, none⟩ = some (.slice A1 t.cols.length c1) ∧ W.cell? ⟨w.heap.size, 2, none⟩ = some (.slice A2 t.key.length c2) ∧ W.cell? ⟨w.heap.size, 3, none⟩ = some (.slice A3 t.fors.length c3) ∧ W.cell? ⟨w.heap.size, 4, none⟩ = some (.slice A4 t.chks.length c4))
                (first
                  | (go_split_ands; refine ⟨?_, ?_, ?_, ?_, ?_, ?_⟩ <;> first | exact bthen (by assumption) hbc | exact pw_cell_below hbc (by assumption))
                  | (go_split_ands; refine ⟨?_, ?_, ?_, ?_, ?_, ?_⟩ <;> first | exact below_drew (Below.refl _ _) | exact below_alloc (by assumption) _ | exact pw_cell_below (below_drew (Below.refl _ _)) (by assumption) | go_keep))
                (first
                  | (go_at_call 15; refine (c30 _ _ _ _ _ _ _ t.key _ _ _ l _ (HT.out.below (bthen HB.out (And.left (by assumption)))).key hkl (Kd.C_below HL.out (bthen HB.out (And.left (by assumption)))) (by omega) (tab_below HTB.out (bthen HB.out (And.left (by assumption)))) (HP.out.rows.keys hkl2)).mono ?_; rintro e w2 ⟨b2, rfl, h2, hb2⟩; obtain rfl : b2 = true := h2.2 HH.out; have hbc := hb2; clear h2)
                  | (go_at_call 27; refine (q27 _ _ _ _ _ _ _ t.key A6 _ c6 rows _ (HT.out.below (bthen HB.out (And.left (by assumption)))).key hkl HR6.out HLN.out).mono ?_; rintro e w4 ⟨d, rfl, hd, hb4⟩; have hd2 := hd.trans (dbl_twice HS6.out.1); obtain rfl : d = true := hd2.2 HD.out; have hbc := hb4; clear hd hd2)
                  | (go_at_call 28; refine (q28 A _ c l at_ _ (Kd.C_below HL.out (bthen HB.out (And.left (by assumption)))) (by omega) HP.out.rows.len).mono ?_; rintro e w3 ⟨A6, c6, rows, rfl, hc6, hp6, hC6, hb3⟩; have hbc := hb3; have HR6 := Aside0.mk hC6; have HS6 := Aside0.mk hp6; have HLN := Lib.hid (show rows.length ≤ 1000000 from by rw [hp6.1.length_eq]; have := rowsAt_len l at_; omega); clear hC6 hp6)
                  | (go_at_call 14; refine (c14 _ (tab_below HTB.out (bthen HB.out (And.left (by assumption))))).mono ?_; rintro e w5 ⟨rfl, hb5⟩; have hbc := hb5; have hbf : Below wr.heap.size wr w5 := bthen (And.left (by assumption)) hb5))
              all_goals
                have HB2 := Aside0.mk (bthen HB.out hbf)
                go_wp2
                go_ret
                exact ⟨rfl, HB2.out⟩
            | false =>
              have HD := Aside0.mk (show ¬ Twice t.key l at_ from fun h => by have := HIN.out.2 h; cases this)
              go_wp2_with fail
              go_region_held3 (fun W => Below wr.heap.size wr W ∧ W.cell? ⟨w.heap.size, 0, none⟩ = some (.string t.nm) ∧ W.cell? ⟨w.heap.size, 1, none⟩ = some (.slice A1 t.cols.length c1) ∧ W.cell? ⟨w.heap.size, 2, none⟩ = some (.slice A2 t.key.length c2) ∧ W.cell? ⟨w.heap.size, 3, none⟩ = some (.slice A3 t.fors.length c3) ∧ W.cell? ⟨w.heap.size, 4, none⟩ = some (.slice A4 t.chks.length c4))
                (first
                  | (go_split_ands; refine ⟨?_, ?_, ?_, ?_, ?_, ?_⟩ <;> first | exact bthen (by assumption) hbc | exact pw_cell_below hbc (by assumption))
                  | (go_split_ands; refine ⟨?_, ?_, ?_, ?_, ?_, ?_⟩ <;> first | exact below_drew (Below.refl _ _) | exact below_alloc (by assumption) _ | exact pw_cell_below (below_drew (Below.refl _ _)) (by assumption) | go_keep))
                (first
                  | (go_at_call 15; refine (c30 _ _ _ _ _ _ _ t.key _ _ _ l _ (HT.out.below (bthen HB.out (And.left (by assumption)))).key hkl (Kd.C_below HL.out (bthen HB.out (And.left (by assumption)))) (by omega) (tab_below HTB.out (bthen HB.out (And.left (by assumption)))) (HP.out.rows.keys hkl2)).mono ?_; rintro e w2 ⟨b2, rfl, h2, hb2⟩; obtain rfl : b2 = true := h2.2 HH.out; have hbc := hb2; clear h2)
                  | (go_at_call 27; refine (q27 _ _ _ _ _ _ _ t.key A6 _ c6 rows _ (HT.out.below (bthen HB.out (And.left (by assumption)))).key hkl HR6.out HLN.out).mono ?_; rintro e w4 ⟨d, rfl, hd, hb4⟩; have hd2 := hd.trans (dbl_twice HS6.out.1); obtain rfl : d = false := (by cases d; rfl; exact absurd (hd2.1 rfl) HD.out); have hbc := hb4; clear hd hd2)
                  | (go_at_call 28; refine (q28 A _ c l at_ _ (Kd.C_below HL.out (bthen HB.out (And.left (by assumption)))) (by omega) HP.out.rows.len).mono ?_; rintro e w3 ⟨A6, c6, rows, rfl, hc6, hp6, hC6, hb3⟩; have hbc := hb3; have HR6 := Aside0.mk hC6; have HS6 := Aside0.mk hp6; have HLN := Lib.hid (show rows.length ≤ 1000000 from by rw [hp6.1.length_eq]; have := rowsAt_len l at_; omega); clear hC6 hp6)
                  | (go_at_call 14; refine (c14 _ (tab_below HTB.out (bthen HB.out (And.left (by assumption))))).mono ?_; rintro e w5 ⟨rfl, hb5⟩; have hbc := hb5; have hbf : Below wr.heap.size wr w5 := bthen (And.left (by assumption)) hb5))
              all_goals
                have HB2 := Aside0.mk (bthen HB.out hbf)
                go_wp2
                go_ret
                exact ⟨rfl, HB2.out⟩
          · have hz1 : ((out.length : Int) == 0) = false := by rw [beq_eq_false_iff_ne]; omega
            have HH := Aside0.mk (show ¬ HoldsP t.key l from fun h => hz (HV2.out.1 h))
            obtain rfl : g = false := by cases g; rfl; exact absurd (HGH.out.1 rfl) HH.out
            have HZ := Lib.hid hz
            clear hz HGH HV2
            cases b with
            | true =>
              have HD := Aside0.mk (HIN.out.1 rfl)
              go_wp2_with fail
              go_region_held3 (fun W => Below wr.heap.size wr W ∧ W.cell? ⟨w.heap.size, 0, none⟩ = some (.string t.nm) ∧ W.cell? ⟨w.heap.size, 1, none⟩ = some (.slice A1 t.cols.length c1) ∧ W.cell? ⟨w.heap.size, 2, none⟩ = some (.slice A2 t.key.length c2) ∧ W.cell? ⟨w.heap.size, 3, none⟩ = some (.slice A3 t.fors.length c3) ∧ W.cell? ⟨w.heap.size, 4, none⟩ = some (.slice A4 t.chks.length c4))
                (first
                  | (go_split_ands; refine ⟨?_, ?_, ?_, ?_, ?_, ?_⟩ <;> first | exact bthen (by assumption) hbc | exact pw_cell_below hbc (by assumption))
                  | (go_split_ands; refine ⟨?_, ?_, ?_, ?_, ?_, ?_⟩ <;> first | exact below_drew (Below.refl _ _) | exact below_alloc (by assumption) _ | exact pw_cell_below (below_drew (Below.refl _ _)) (by assumption) | go_keep))
                (first
                  | (go_at_call 15; refine (c30 _ _ _ _ _ _ _ t.key _ _ _ l _ (HT.out.below (bthen HB.out (And.left (by assumption)))).key hkl (Kd.C_below HL.out (bthen HB.out (And.left (by assumption)))) (by omega) (tab_below HTB.out (bthen HB.out (And.left (by assumption)))) (HP.out.rows.keys hkl2)).mono ?_; rintro e w2 ⟨b2, rfl, h2, hb2⟩; obtain rfl : b2 = false := (by cases b2; rfl; exact absurd (h2.1 rfl) HH.out); have hbc := hb2; clear h2)
                  | (go_at_call 27; refine (q27 _ _ _ _ _ _ _ t.key A6 _ c6 rows _ (HT.out.below (bthen HB.out (And.left (by assumption)))).key hkl HR6.out HLN.out).mono ?_; rintro e w4 ⟨d, rfl, hd, hb4⟩; have hd2 := hd.trans (dbl_twice HS6.out.1); obtain rfl : d = true := hd2.2 HD.out; have hbc := hb4; clear hd hd2)
                  | (go_at_call 28; refine (q28 A _ c l at_ _ (Kd.C_below HL.out (bthen HB.out (And.left (by assumption)))) (by omega) HP.out.rows.len).mono ?_; rintro e w3 ⟨A6, c6, rows, rfl, hc6, hp6, hC6, hb3⟩; have hbc := hb3; have HR6 := Aside0.mk hC6; have HS6 := Aside0.mk hp6; have HLN := Lib.hid (show rows.length ≤ 1000000 from by rw [hp6.1.length_eq]; have := rowsAt_len l at_; omega); clear hC6 hp6)
                  | (go_at_call 14; refine (c14 _ (tab_below HTB.out (bthen HB.out (And.left (by assumption))))).mono ?_; rintro e w5 ⟨rfl, hb5⟩; have hbc := hb5; have hbf : Below wr.heap.size wr w5 := bthen (And.left (by assumption)) hb5))
              all_goals
                have HB2 := Aside0.mk (bthen HB.out hbf)
                go_wp2
                go_ret
                exact ⟨rfl, HB2.out⟩
            | false =>
              have HD := Aside0.mk (show ¬ Twice t.key l at_ from fun h => by have := HIN.out.2 h; cases this)
              go_wp2_with fail
              go_region_held3 (fun W => Below wr.heap.size wr W ∧ W.cell? ⟨w.heap.size, 0, none⟩ = some (.string t.nm) ∧ W.cell? ⟨w.heap.size, 1, none⟩ = some (.slice A1 t.cols.length c1) ∧ W.cell? ⟨w.heap.size, 2, none⟩ = some (.slice A2 t.key.length c2) ∧ W.cell? ⟨w.heap.size, 3, none⟩ = some (.slice A3 t.fors.length c3) ∧ W.cell? ⟨w.heap.size, 4, none⟩ = some (.slice A4 t.chks.length c4))
                (first
                  | (go_split_ands; refine ⟨?_, ?_, ?_, ?_, ?_, ?_⟩ <;> first | exact bthen (by assumption) hbc | exact pw_cell_below hbc (by assumption))
                  | (go_split_ands; refine ⟨?_, ?_, ?_, ?_, ?_, ?_⟩ <;> first | exact below_drew (Below.refl _ _) | exact below_alloc (by assumption) _ | exact pw_cell_below (below_drew (Below.refl _ _)) (by assumption) | go_keep))
                (first
                  | (go_at_call 15; refine (c30 _ _ _ _ _ _ _ t.key _ _ _ l _ (HT.out.below (bthen HB.out (And.left (by assumption)))).key hkl (Kd.C_below HL.out (bthen HB.out (And.left (by assumption)))) (by omega) (tab_below HTB.out (bthen HB.out (And.left (by assumption)))) (HP.out.rows.keys hkl2)).mono ?_; rintro e w2 ⟨b2, rfl, h2, hb2⟩; obtain rfl : b2 = false := (by cases b2; rfl; exact absurd (h2.1 rfl) HH.out); have hbc := hb2; clear h2)
                  | (go_at_call 27; refine (q27 _ _ _ _ _ _ _ t.key A6 _ c6 rows _ (HT.out.below (bthen HB.out (And.left (by assumption)))).key hkl HR6.out HLN.out).mono ?_; rintro e w4 ⟨d, rfl, hd, hb4⟩; have hd2 := hd.trans (dbl_twice HS6.out.1); obtain rfl : d = false := (by cases d; rfl; exact absurd (hd2.1 rfl) HD.out); have hbc := hb4; clear hd hd2)
                  | (go_at_call 28; refine (q28 A _ c l at_ _ (Kd.C_below HL.out (bthen HB.out (And.left (by assumption)))) (by omega) HP.out.rows.len).mono ?_; rintro e w3 ⟨A6, c6, rows, rfl, hc6, hp6, hC6, hb3⟩; have hbc := hb3; have HR6 := Aside0.mk hC6; have HS6 := Aside0.mk hp6; have HLN := Lib.hid (show rows.length ≤ 1000000 from by rw [hp6.1.length_eq]; have := rowsAt_len l at_; omega); clear hC6 hp6)
                  | (go_at_call 14; refine (c14 _ (tab_below HTB.out (bthen HB.out (And.left (by assumption))))).mono ?_; rintro e w5 ⟨rfl, hb5⟩; have hbc := hb5; have hbf : Below wr.heap.size wr w5 := bthen (And.left (by assumption)) hb5))
              all_goals
                have HB2 := Aside0.mk (bthen HB.out hbf)
                go_wp2
                go_ret
                exact ⟨rfl, HB2.out⟩
end Go.Proofs.YtiamihkfphmohaaGreatDoor.PA
