import Derived.Shelf.SlSortCmp.QuietGrown
import Derived.Deep.RegionHeld3
import Derived.Lib.Hide
import Derived.WalkLawsBesides
import Derived.WalkSpells
import Derived.IntWalk
import Derived.Deep.RegionWith
import Derived.Test.YtiamihkfphmohaaGreatDoorShelf
import Derived.Test.YtiamihkfphmohaaGreatDoorB2
import Derived.Test.YtiamihkfphmohaaGreatDoorA6
set_option linter.unusedVariables false
set_option linter.unusedSimpArgs false

namespace Go.Proofs.YtiamihkfphmohaaGreatDoor.PA
open Go.RowKit Go.Proofs.YtiamihkfphmohaaGreatDoorW.PrintWords Go.Proofs.YtiamihkfphmohaaGreatDoorW.PrintLast Go.Proofs.YtiamihkfphmohaaGreatDoorW.PrintMore

open Go.Sort
attribute [local irreducible] Go.wpQuiet
attribute [local go_sem] max2_int max_two
theorem wrap_id (x : Int) (h1 : -9223372036854775808 ≤ x) (h2 : x ≤ 9223372036854775807) : IntKind.i64.wrap x = x := by
  simp only [IntKind.wrap, IntKind.signed, IntKind.bits]
  simp
  split <;> omega
def joinS (l : List S50) (p : S50) : List S50 := match l.getLast? with
  | none => l ++ [p]
  | some q => if p.f0 ≤ q.f1 then l.take (l.length - 1) ++ [⟨q.f0, if q.f1 < p.f1 then p.f1 else q.f1⟩] else l ++ [p]
theorem joinS_nil (p : S50) : joinS [] p = [p] := rfl
theorem joinS_last {l : List S50} (h : 0 < l.length) (p : S50) : joinS l p = if p.f0 ≤ (rd_T50 l (l.length - 1 : Int)).f1 then l.take (l.length - 1) ++ [⟨(rd_T50 l (l.length - 1 : Int)).f0, if (rd_T50 l (l.length - 1 : Int)).f1 < p.f1 then p.f1 else (rd_T50 l (l.length - 1 : Int)).f1⟩] else l ++ [p] := by
  have h1 : l.getLast? = some (rd_T50 l (l.length - 1 : Int)) := by
    rw [List.getLast?_eq_getElem?, rd_T50, List.getD_eq_getElem?_getD, show (l.length - 1 : Int).toNat = l.length - 1 from by omega, List.getElem?_eq_getElem (by omega)]
    rfl
  simp only [joinS, h1]
theorem joinS_last' {l : List S50} {k : Nat} (h : l.length = k + 1) (p : S50) : joinS l p = if p.f0 ≤ (rd_T50 l k).f1 then l.take k ++ [⟨(rd_T50 l k).f0, if (rd_T50 l k).f1 < p.f1 then p.f1 else (rd_T50 l k).f1⟩] else l ++ [p] := by
  have h1 := joinS_last (show 0 < l.length by omega) p
  rw [h1, show ((l.length : Int) - 1) = (k : Int) by omega, show l.length - 1 = k by omega]
def en50 (p : S50) : List Value := [.int .i64 p.f0, .int .i64 p.f1]
/-- Join: it appends to a row that the caller owns, or makes a new one. -/
def PutP (w0 w : World) (base : Nat) (v : Value) (r : List S50) (e : Ending) (w' : World) : Prop :=
  ∃ v1, e = .returned v1 ∧ Kd.R k50 50 w' base (fun _ => True) v1 r ∧ Below base w0 w' ∧ w.grownBy w' v.ownBlock ∧ (v1.ownBlock = v.ownBlock ∨ ∃ b, v1.ownBlock = some b ∧ w.heap.size ≤ b)
theorem grown_sub {w w1 w2 : World} {r : Option Nat} (hb : Below w.heap.size w w1) (hg : w1.grownBy w2 r) : w.grownBy w2 r :=
  ⟨hg.os.trans hb.os, hg.tape.trans hb.tape, hg.output.trans hb.output, Nat.le_trans hb.size hg.size, fun k hk hr => by
    rw [hg.block k (Nat.lt_of_lt_of_le hk hb.size) hr]
    exact hb.block k hk⟩
set_option maxHeartbeats 4000000 in
set_option maxRecDepth 100000 in
theorem q119 (v : Value) (xs : List S50) (p : S50) (w0 w : World) (base : Nat) (HO : Kd.R k50 50 w base (fun _ => True) v xs) (HB : Below base w0 w) (hbase : base ≤ w.heap.size) (hl : xs.length ≤ 1000000) :
    Calls Tryz.prog 119 #[v, .agg #[.int .i64 p.f0, .int .i64 p.f1]] w (PutP w0 w base v (joinS xs p)) := by
  have mixed := mixedT
  obtain ⟨A, c, rfl⟩ := Kd.R_slice HO
  have hr := (Kd.R_reads' HO).2.2
  have hcap := (Kd.R_reads' HO).2.1
  have hb0 : Below w.heap.size w (w.alloc (.cells #[.int .i64 p.f0, .int .i64 p.f1] 50)) := below_alloc (Below.refl _ _) _
  have hpx := blk_new w (.cells #[.int .i64 p.f0, .int .i64 p.f1] 50)
  have p0 : (w.alloc (.cells #[.int .i64 p.f0, .int .i64 p.f1] 50)).cell? ⟨w.heap.size, 0, none⟩ = some (.int .i64 p.f0) := by rw [blk_cell hpx]; rfl
  have p1 : (w.alloc (.cells #[.int .i64 p.f0, .int .i64 p.f1] 50)).cell? ⟨w.heap.size, 1, none⟩ = some (.int .i64 p.f1) := by rw [blk_cell hpx]; rfl
  have pl : w.heap.size < (w.alloc (.cells #[.int .i64 p.f0, .int .i64 p.f1] 50)).heap.size := by simp
  have HB0 := Aside0.mk hb0
  have HR := Aside0.mk (Kd.C_below hr hb0)
  have HB := Aside0.mk HB
  clear hr hb0 hpx
  by_cases h0 : xs.length = 0
  · have hxn : xs = [] := List.eq_nil_of_length_eq_zero h0
    subst hxn
    have HO := Aside0.mk HO
    go_enter Tryz.func119, Tryz.ntmps119
    go_wp2_with fail
    generalize w.alloc (.cells #[.int .i64 p.f0, .int .i64 p.f1] 50) = W0 at *
    have g0 := cell_grown (a := ⟨w.heap.size, 0, none⟩) pl p0
    have g1 := cell_grown (a := ⟨w.heap.size, 1, none⟩) pl p1
    clear p0 p1
    go_quiet_grown (fail)
    have hbg := below_gr W0 nq osq
    have y0 := g0 nq osq
    have y1 := g1 nq osq
    have HB2 := Aside0.mk (bthen HB0.out hbg)
    clear g0 g1 hbg
    generalize grow (W0.drewN nq) osq = w2 at *
    have yl := World.block_lt_of_cell? _ _ y0
    have HO2 := Aside0.mk (Kd.R_below HO.out HB2.out)
    have HBB := Aside0.mk (below_then HB.out hbase HB2.out)
    have hbs : base ≤ w2.heap.size := Nat.le_trans hbase HB2.out.size
    go_wp2_with (at_builtin; refine Kd.R_append k50 (w0 := w0) base rfl (.tmp 47) (.tmp 49) 41 50 (.agg #[(.int .i64 0), (.int .i64 0)]) 16 rfl Tryz.underlying41 info50 rfl (by decide) (by omega) (.slice A 0 c) ([] : List S50) p [.int .i64 p.f0, .int .i64 p.f1] (fun _ => True) (fun _ => False) rfl rfl (k50_mkM _ _ _ p) (fun _ hk => hk.elim) (fun _ _ => trivial) ?aO ?aB ?aS ?aL ?_; (case aO => exact HO2.out); (case aB => exact HBB.out); (case aS => exact hbs); (case aL => exact (by omega)); intro v1 w1 ho hb hg hat; skip)
    go_ret
    exact ⟨_, rfl, ho, hb, grown_sub HB2.out hg, hat.elim .inl (fun ⟨b, h1, h2⟩ => .inr ⟨b, h1, Nat.le_trans HB2.out.size h2⟩)⟩
  · obtain ⟨k, hk⟩ : ∃ k, xs.length = k + 1 := ⟨xs.length - 1, by omega⟩
    have hp := Lib.hid (joinS_last' hk p)
    obtain ⟨ad, eA, x0, x1⟩ := at_T50 HR.out (k : Int) (by omega) (by omega)
    subst eA
    rw [hk] at HR HO hcap hl
    rw [hk]
    have HO := Aside0.mk HO
    have HK := Lib.hid hk
    rw [Int.toNat_natCast] at x0 x1
    have xbl := World.block_lt_of_cell? _ _ x0
    have e1 : (0 : Int) ≤ (k : Int) := by omega
    have e2 : (k : Int) < (k : Int) + 1 := by omega
    have e4 : ((k : Int) + 1 - 1) = k := by omega
    clear h0 hk
    go_enter Tryz.func119, Tryz.ntmps119
    go_wp2_with fail
    generalize w.alloc (.cells #[.int .i64 p.f0, .int .i64 p.f1] 50) = W0 at *
    have g0 := cell_grown (a := ⟨w.heap.size, 0, none⟩) pl p0
    have g1 := cell_grown (a := ⟨w.heap.size, 1, none⟩) pl p1
    have f0 := cell_grown xbl x0
    have f1 := cell_grown (a := ⟨(ad.add (k * 2)).block, (ad.add (k * 2)).off + 1, none⟩) xbl x1
    have hw := wrap_id (k : Int) (by omega) (by omega)
    clear p0 p1 x0 x1
    by_cases hq : p.f0 ≤ (rd_T50 xs k).f1
    · have HQ := Lib.hid hq
      have hq2 : decide (p.f0 ≤ (rd_T50 xs k).f1) = true := decide_eq_true hq
      go_quiet_grown (fail)
      have hbg0 := below_gr W0 nq osq
      have y0 := g0 nq osq
      have y1 := g1 nq osq
      have z0 := f0 nq osq
      have z1 := f1 nq osq
      have HB2 := Aside0.mk (bthen HB0.out hbg0)
      clear g0 g1 f0 f1
      generalize grow (W0.drewN nq) osq = w2 at *
      have yl := World.block_lt_of_cell? _ _ y0
      have zl := World.block_lt_of_cell? _ _ z0
      have e3 : (k : Int) ≤ c := by omega
      have e5 : ¬ c = 0 := by omega
      have hml := Lib.hid (show (xs.take k).length = k by rw [List.length_take]; have := HK.out; omega)
      have HRT := Aside0.mk (show ReadsRow (fun x cs => cs = en50 x) 2 w2 (some ad) k (xs.take k) from by
        have h := Kd.C_take (m := k) (by have h := Kd.C_below HR.out hbg0; rw [← HK.out] at h; exact h) (by have := HK.out; omega)
        rw [hml.out] at h
        exact ReadsRow.imp_ h (Below.refl _ _) (fun x cs h => k50_open h))
      go_wp2_with (at_builtin; refine Kd.R_append_rows k50 (Rr := fun x cs => cs = en50 x) (w0 := w2) w2.heap.size rfl (.tmp 22) (.tmp 26) 41 50 (.agg #[(.int .i64 0), (.int .i64 0)]) 16 rfl Tryz.underlying41 info50 rfl (by decide) (by omega) (.slice none 0 0) ([] : List S50) (xs.take k) (some ad) k c (fun _ => True) (fun _ => False) rfl rfl ?aO ?aR ?aK (fun _ hk => hk.elim) (fun _ _ => trivial) ?aB ?aS ?aL ?_; (case aO => exact Kd.R_nil _ _ _ _ _); (case aR => exact HRT.out); (case aK => exact (fun x cs h => h ▸ k50_mkM _ _ _ x)); (case aB => exact Below.refl _ _); (case aS => exact Nat.le_refl _); (case aL => exact (by simp; omega)); intro v3 w3 ho3 hb3 hg3 hat3; rw [List.nil_append] at ho3; skip)
      have a0 := pw_cell_below hb3 z0
      have a1 := pw_cell_below hb3 z1
      have a2 := pw_cell_below hb3 y1
      have al := World.block_lt_of_cell? _ _ a0
      have al2 := World.block_lt_of_cell? _ _ a2
      have HZ0 := Aside0.mk z0
      have HZ1 := Aside0.mk z1
      have HY1 := Aside0.mk y1
      have HO3 := Aside0.mk ho3
      have HB3 := Aside0.mk hb3
      have hs3 : w2.heap.size ≤ w3.heap.size := hb3.size
      obtain ⟨A9, c9, hv9⟩ := Kd.R_slice ho3
      rw [hml.out] at hv9
      subst hv9
      clear z0 z1 y0 y1 yl zl hg3 hat3 ho3 hb3
      go_region_held3 (fun W => W.cell? (ad.add (k * 2)) = some (.int .i64 (rd_T50 xs k).f0) ∧ W.cell? ⟨(ad.add (k * 2)).block, (ad.add (k * 2)).off + 1, none⟩ = some (.int .i64 (rd_T50 xs k).f1) ∧ W.cell? ⟨w.heap.size, 1, none⟩ = some (.int .i64 p.f1))
        (first
          | (refine ⟨?_, ?_, ?_⟩ <;> assumption)
          | (refine ⟨?_, ?_, ?_⟩ <;> exact pw_cell_below (below_drew (Below.refl _ _)) (by assumption))
          | (refine ⟨?_, ?_, ?_⟩ <;> first | exact pw_cell_below (below_alloc (Below.refl _ _) _) a0 | exact pw_cell_below (below_alloc (Below.refl _ _) _) a1 | exact pw_cell_below (below_alloc (Below.refl _ _) _) a2))
        ((first
          | (refine Kd.R_append_step k50 (w0 := w2) (W := w3.drew) w2.heap.size (by rfl) (.tmp 28) (.tmp 45) 41 50 (.agg #[(.int .i64 0), (.int .i64 0)]) 16 (by rfl) Tryz.underlying41 info50 (by rfl) (by decide) (by omega) (.slice A9 k c9) (xs.take k) ⟨(rd_T50 xs k).f0, if (rd_T50 xs k).f1 < p.f1 then p.f1 else (rd_T50 xs k).f1⟩ [.int .i64 (rd_T50 xs k).f0, .int .i64 (if (rd_T50 xs k).f1 < p.f1 then p.f1 else (rd_T50 xs k).f1)] (fun _ => True) (fun _ => False) (by rfl) (by rfl) (k50_mkM _ _ _ _) (fun _ hk => hk.elim) (fun _ _ => trivial) ?aO ?aB ?aS ?aL ?_; (case aO => exact HO3.out); (case aB => exact Below.drew HB3.out); (case aS => exact hs3); (case aL => (rw [hml.out]; omega)); intro v1 W1 ho hb hg1 hat; have hk0 := pw_cell_below hb HZ0.out; have hk1 := pw_cell_below hb HZ1.out; have hk2 := pw_cell_below hb HY1.out)))
      all_goals
        go_wp2
        all_goals
          go_ret
          obtain ⟨g9, cap9, hv, hg9, _⟩ := R_form ho (by simp)
          exact ⟨_, rfl, by rw [hp.out, if_pos HQ.out]; exact Kd.R_lower ho (Nat.le_trans hbase HB2.out.size), below_then (below_then HB.out hbase HB2.out) (Nat.le_trans hbase HB2.out.size) hb, grown_of_below (bthen HB2.out hb) _, .inr ⟨g9, by rw [hv]; rfl, Nat.le_trans HB2.out.size hg9⟩⟩
    · have HQ := Lib.hid hq
      have hq2 : decide (p.f0 ≤ (rd_T50 xs k).f1) = false := decide_eq_false hq
      go_quiet_grown (fail)
      have hbg0 := below_gr W0 nq osq
      have y0 := g0 nq osq
      have y1 := g1 nq osq
      have z0 := f0 nq osq
      have z1 := f1 nq osq
      have HB2 := Aside0.mk (bthen HB0.out hbg0)
      clear g0 g1 f0 f1
      generalize grow (W0.drewN nq) osq = w2 at *
      have yl := World.block_lt_of_cell? _ _ y0
      have zl := World.block_lt_of_cell? _ _ z0
      have HO2 := Aside0.mk (Kd.R_below HO.out HB2.out)
      have HBB := Aside0.mk (below_then HB.out hbase HB2.out)
      have hbs : base ≤ w2.heap.size := Nat.le_trans hbase HB2.out.size
      go_wp2_with (at_builtin; refine Kd.R_append k50 (w0 := w0) base rfl (.tmp 47) (.tmp 49) 41 50 (.agg #[(.int .i64 0), (.int .i64 0)]) 16 rfl Tryz.underlying41 info50 rfl (by decide) (by omega) (.slice (some ad) (k + 1) c) xs p [.int .i64 p.f0, .int .i64 p.f1] (fun _ => True) (fun _ => False) rfl rfl (k50_mkM _ _ _ p) (fun _ hk => hk.elim) (fun _ _ => trivial) ?aO ?aB ?aS ?aL ?_; (case aO => exact HO2.out); (case aB => exact HBB.out); (case aS => exact hbs); (case aL => exact (by have := HK.out; omega)); intro v1 w1 ho hb hg hat; skip)
      go_ret
      exact ⟨_, rfl, by rw [hp.out, if_neg (by have := HQ.out; omega)]; exact ho, hb, grown_sub HB2.out hg, hat.elim .inl (fun ⟨b, h1, h2⟩ => .inr ⟨b, h1, Nat.le_trans HB2.out.size h2⟩)⟩
end Go.Proofs.YtiamihkfphmohaaGreatDoor.PA

namespace Go.Proofs.YtiamihkfphmohaaGreatDoor.PA
open Go.RowKit Go.Proofs.YtiamihkfphmohaaGreatDoorW.PrintWords Go.Proofs.YtiamihkfphmohaaGreatDoorW.PrintLast Go.Proofs.YtiamihkfphmohaaGreatDoorW.PrintMore

open Go.Sort
attribute [local irreducible] Go.wpQuiet
def pstep (acc : List Int) (p : S50) : List Int := if pv p = true then insI (insI acc p.f0) p.f1 else acc
/-- P3.5. -/
def pts3 (l : List S50) : List Int := l.foldl pstep []
theorem pts3_step {l : List S50} {k : Nat} (h : k < l.length) : pts3 (l.take (k + 1)) = pstep (pts3 (l.take k)) (rd_T50 l k) := by
  have e : l[k] = rd_T50 l k := by simp [rd_T50, h]
  rw [take_step h, pts3, List.foldl_append, e]
  rfl
theorem pts3_len (l : List S50) : (pts3 l).length ≤ 2 * l.length := by
  have : ∀ (l : List S50) (acc : List Int), (l.foldl pstep acc).length ≤ 2 * l.length + acc.length := by
    intro l
    induction l with
    | nil => intro acc; simp
    | cons x l ih =>
      intro acc
      have h1 := ih (pstep acc x)
      have h2 : (pstep acc x).length ≤ acc.length + 2 := by
        unfold pstep
        split
        · have h1 := insI_len (insI acc x.f0) x.f1
          have h2 := insI_len acc x.f0
          omega
        · omega
      simp only [List.foldl_cons, List.length_cons]
      omega
  have h := this l []
  simp at h
  exact h
set_option maxHeartbeats 2000000 in
set_option maxRecDepth 100000 in
theorem q117 (A : Option Addr) (n c : Nat) (l : List S50) (w : World) (hr : k50.C w A n l) (hl : l.length ≤ 400000) :
    Calls Tryz.prog 117 #[.slice A n c] w (IntsC (pts3 l) w) := by
  obtain rfl := hr.1
  have HR := Aside0.mk hr
  clear hr
  go_enter Tryz.func117, Tryz.ntmps117
  go_wp2
  go_loopw [3, 4] (fun v i wr => ∃ (k : Nat) (A1 : Option Addr) (c1 : Nat), v = .slice A1 (pts3 (l.take k)).length c1 ∧ i = .int .i64 k ∧ k ≤ l.length ∧ Aside0 (Below w.heap.size w wr) ∧ Aside0 ((Kd.int .i64).C wr A1 (pts3 (l.take k)).length (pts3 (l.take k)))) (fun _ i _ => l.length - (intOf i).toNat)
  case atStart => exact ⟨0, none, 0, rfl, rfl, Nat.zero_le _, ⟨Below.refl _ _⟩, ⟨Kd.C_nil _ _⟩⟩
  case round =>
    obtain ⟨k, A1, c1, rfl, rfl, hk', HB, HC⟩ := hrel
    by_cases h1 : k < l.length
    · have hst := Lib.hid (pts3_step h1)
      have hpl := pts3_len (l.take k)
      rw [List.length_take] at hpl
      generalize pts3 (l.take k) = ps at *
      obtain ⟨xa, rfl, x1, x2⟩ := at_T50 HR.out k (by omega) (by omega)
      rw [Int.toNat_natCast] at x1 x2
      replace x1 := pw_cell_below HB.out x1
      replace x2 := pw_cell_below HB.out x2
      have xbl := World.block_lt_of_cell? _ _ x1
      have hk1 : (0 : Int) ≤ k := by omega
      have hk2 : (k : Int) < l.length := by omega
      go_wp2_with fail
      refine (c65 _ _ _).mono ?_
      rintro e w2 ⟨rfl, hb2⟩
      have HB2 := Aside0.mk (bthen HB.out hb2)
      have HC2 := Aside0.mk (Kd.C_below HC.out hb2)
      replace x1 := pw_cell_below hb2 x1
      replace x2 := pw_cell_below hb2 x2
      have xbl := World.block_lt_of_cell? _ _ x1
      clear HB HC hb2
      by_cases hq : pv (rd_T50 l k) = true
      · have hq' : pv ⟨(rd_T50 l k).f0, (rd_T50 l k).f1⟩ = true := hq
        have HQ := Lib.hid hq
        clear hq
        go_wp2_with fail
        refine (q67 A1 _ c1 ps (rd_T50 l k).f0 _ HC2.out (by omega)).mono ?_
        rintro e w3 ⟨v3, rfl, hR3, hb3⟩
        have hl3 := insI_len ps (rd_T50 l k).f0
        obtain ⟨A5, c5, rfl⟩ := Kd.R_slice hR3
        have HB3 := Aside0.mk (bthen HB2.out hb3)
        have HC3 := Aside0.mk (Kd.R_reads' hR3).2.2
        replace x2 := pw_cell_below hb3 x2
        have xbl := World.block_lt_of_cell? _ _ x2
        clear hR3 hb3 HB2 HC2 x1
        go_wp2_with fail
        refine (q67 A5 _ c5 (insI ps (rd_T50 l k).f0) (rd_T50 l k).f1 _ HC3.out (by omega)).mono ?_
        rintro e w4 ⟨v4, rfl, hR4, hb4⟩
        obtain ⟨A6, c6, rfl⟩ := Kd.R_slice hR4
        have HB4 := Aside0.mk (bthen HB3.out hb4)
        have HC4 := Aside0.mk (Kd.R_reads' hR4).2.2
        have he := Lib.hid (show pts3 (l.take (k + 1)) = insI (insI ps (rd_T50 l k).f0) (rd_T50 l k).f1 from by rw [hst.out, pstep, if_pos HQ.out])
        clear hR4 hb4
        go_wp2
        exact ⟨⟨k + 1, A6, c6, by rw [he.out], by go_num, h1, HB4, ⟨by rw [he.out]; exact HC4.out⟩⟩, by simp [intOf]; omega⟩
      · have hq' : pv ⟨(rd_T50 l k).f0, (rd_T50 l k).f1⟩ = false := by simpa using hq
        have he := Lib.hid (show pts3 (l.take (k + 1)) = ps from by rw [hst.out, pstep, if_neg hq])
        go_wp2
        exact ⟨⟨k + 1, A1, c1, by rw [he.out], by go_num, h1, HB2, ⟨by rw [he.out]; exact HC2.out⟩⟩, by simp [intOf]; omega⟩
    · rw [List.take_of_length_le (by omega)] at HC ⊢
      go_wp2
      go_ret
      exact ⟨A1, c1, rfl, HC.out, HB.out⟩
def wantS (k : Int) (a b : Bool) : Bool := if k = 1 then a && b else if k = 2 then a || b else if k = 3 then a && !b else !a && !b
set_option maxHeartbeats 2000000 in
theorem q118 (k : Int) (a b : Bool) (w : World) (hk : k = 1 ∨ k = 2 ∨ k = 3) : Calls Tryz.prog 118 #[.int .i64 k, .bool a, .bool b] w fun e w' => e = .returned (.bool (wantS k a b)) ∧ Below w.heap.size w w' := by
  rcases hk with rfl | rfl | rfl <;> cases a <;> cases b <;> (go_enter Tryz.func118, Tryz.ntmps118; go_wp2; go_ret; exact ⟨rfl, Below.refl _ _⟩)
end Go.Proofs.YtiamihkfphmohaaGreatDoor.PA

namespace Go.Proofs.YtiamihkfphmohaaGreatDoor.PA
open Go.RowKit Go.Proofs.YtiamihkfphmohaaGreatDoorW.PrintWords Go.Proofs.YtiamihkfphmohaaGreatDoorW.PrintLast Go.Proofs.YtiamihkfphmohaaGreatDoorW.PrintMore

open Go.Sort
attribute [local irreducible] Go.wpQuiet
/-- The combination as far as the k-th point. -/
def combTo (f : Int → Bool) (ps : List Int) : Nat → List S50
  | 0 => []
  | k + 1 => if f (rd ps k) = true then joinS (combTo f ps k) ⟨rd ps k, rd ps (k + 1 : Nat)⟩ else combTo f ps k
theorem combTo_yes {f : Int → Bool} {ps : List Int} {i : Nat} (h : f (rd ps i) = true) : combTo f ps (i + 1) = joinS (combTo f ps i) ⟨rd ps i, rd ps ((i : Int) + 1)⟩ := by
  rw [combTo, if_pos h]
  rfl
theorem combTo_no {f : Int → Bool} {ps : List Int} {i : Nat} (h : ¬ f (rd ps i) = true) : combTo f ps (i + 1) = combTo f ps i := by
  rw [combTo, if_neg h]
theorem joinS_len (l : List S50) (p : S50) : (joinS l p).length ≤ l.length + 1 := by
  by_cases h : 0 < l.length
  · rw [joinS_last h]
    split
    · rw [List.length_append, List.length_take, List.length_singleton]; omega
    · simp
  · obtain rfl : l = [] := List.eq_nil_of_length_eq_zero (by omega)
    simp [joinS]
theorem combTo_len (f : Int → Bool) (ps : List Int) (k : Nat) : (combTo f ps k).length ≤ k := by
  induction k with
  | zero => simp [combTo]
  | succ k ih =>
    rw [combTo]
    split
    · have := joinS_len (combTo f ps k) ⟨rd ps k, rd ps (k + 1 : Nat)⟩
      omega
    · omega
def PersRes (r : List S50) (w : World) (e : Ending) (w' : World) : Prop := ∃ v, e = .returned v ∧ Kd.R k50 50 w' w.heap.size (fun _ => True) v r ∧ Below w.heap.size w w'
def allP (a b : List S50) : List S50 := ([⟨0, 1099511627776⟩] ++ a) ++ b
def combF (k : Int) (a b : List S50) (t : Int) : Bool := wantS k (sc a t) (sc b t)
theorem pts3_pos (a b : List S50) : 0 < (pts3 (allP a b)).length := by
  have : ∀ (l : List S50) (acc : List Int), acc.length ≤ (l.foldl pstep acc).length := by
    intro l
    induction l with
    | nil => intro acc; exact Nat.le_refl _
    | cons x l ih =>
      intro acc
      refine Nat.le_trans ?_ (ih (pstep acc x))
      unfold pstep
      split
      · have h : ∀ (m : List Int) (z : Int), m.length ≤ (insI m z).length := by
          intro m z
          induction m with
          | nil => simp
          | cons y m ih =>
            rw [insI]
            split
            · simp; omega
            · split <;> simp
        exact Nat.le_trans (h _ _) (h _ _)
      · exact Nat.le_refl _
  have h := this (a ++ b) (pstep [] ⟨0, 1099511627776⟩)
  have e : pts3 (allP a b) = (a ++ b).foldl pstep (pstep [] ⟨0, 1099511627776⟩) := by unfold pts3 allP; simp
  rw [e]
  refine Nat.lt_of_lt_of_le ?_ h
  decide
set_option maxHeartbeats 4000000 in
set_option maxRecDepth 100000 in
theorem q81 (k : Int) (hk : k = 1 ∨ k = 2 ∨ k = 3) (A1 : Option Addr) (n1 c1 : Nat) (a : List S50) (A2 : Option Addr) (n2 c2 : Nat) (b : List S50) (w : World) (ha : k50.C w A1 n1 a) (hb : k50.C w A2 n2 b) (hla : a.length ≤ 100000) (hlb : b.length ≤ 100000) :
    Calls Tryz.prog 81 #[.int .i64 k, .slice A1 n1 c1, .slice A2 n2 c2] w (PersRes (combTo (combF k a b) (pts3 (allP a b)) ((pts3 (allP a b)).length - 1)) w) := by
  have mixed := mixedT
  obtain rfl := ha.1
  obtain rfl := hb.1
  have H1 := Aside0.mk ha
  have H2 := Aside0.mk hb
  clear ha hb
  go_enter Tryz.func81, Tryz.ntmps81
  have HB0 := Aside0.mk (Below.refl w.heap.size w)
  go_wp2_with (first
    | (at_builtin; refine Kd.R_append k50 (w0 := w) w.heap.size rfl (.tmp 11) (.tmp 13) 41 50 (.agg #[(.int .i64 0), (.int .i64 0)]) 16 rfl Tryz.underlying41 info50 rfl (by decide) (by omega) (.slice none 0 0) ([] : List S50) ⟨0, 1099511627776⟩ [.int .i64 0, .int .i64 1099511627776] (fun _ => True) (fun _ => False) rfl rfl (k50_mkM _ _ _ ⟨0, 1099511627776⟩) (fun _ hk => hk.elim) (fun _ _ => trivial) ?aO ?aB ?aS ?aL ?_; (case aO => exact Kd.R_nil _ _ _ _ _); (case aB => exact Below.refl _ _); (case aS => exact Nat.le_refl _); (case aL => exact (by simp)); intro v1 wa ho hb hg hat; rw [List.nil_append] at ho; obtain ⟨B1, d1, hv1⟩ := Kd.R_slice ho; subst hv1; have HO1 := Aside0.mk ho; have HB1 := Aside0.mk hb; clear ho hb hg hat)
    | (at_builtin; refine Kd.R_append_rows k50 (Rr := fun x cs => cs = en50 x) (w0 := w) w.heap.size rfl (.tmp 15) (.tmp 16) 41 50 (.agg #[(.int .i64 0), (.int .i64 0)]) 16 rfl Tryz.underlying41 info50 rfl (by decide) (by omega) (.slice B1 1 d1) ([⟨0, 1099511627776⟩] : List S50) a A1 a.length c1 (fun _ => True) (fun _ => False) rfl rfl ?aO ?aR ?aK (fun _ hk => hk.elim) (fun _ _ => trivial) ?aB ?aS ?aL ?_; (case aO => exact HO1.out); (case aR => exact (ReadsRow.imp_ H1.out HB1.out (fun x cs h => k50_open h))); (case aK => exact (fun x cs h => h ▸ k50_mkM _ _ _ x)); (case aB => exact HB1.out); (case aS => exact HB1.out.size); (case aL => exact (by simp only [List.length_append, List.length_singleton]; omega)); intro v2 wb ho hb hg hat; generalize hl2 : ([⟨0, 1099511627776⟩] ++ a : List S50) = l2 at ho; obtain ⟨B2, d2, hv2⟩ := Kd.R_slice ho; subst hv2; have HL2 := Lib.hid hl2; clear hl2; have HO2 := Aside0.mk ho; have HB2 := Aside0.mk hb; clear ho hb hg hat)
    | (at_builtin; refine Kd.R_append_rows k50 (Rr := fun x cs => cs = en50 x) (w0 := w) w.heap.size rfl (.tmp 18) (.tmp 19) 41 50 (.agg #[(.int .i64 0), (.int .i64 0)]) 16 rfl Tryz.underlying41 info50 rfl (by decide) (by omega) (.slice B2 l2.length d2) l2 b A2 b.length c2 (fun _ => True) (fun _ => False) rfl rfl ?aO ?aR ?aK (fun _ hk => hk.elim) (fun _ _ => trivial) ?aB ?aS ?aL ?_; (case aO => exact HO2.out); (case aR => exact (ReadsRow.imp_ H2.out HB2.out (fun x cs h => k50_open h))); (case aK => exact (fun x cs h => h ▸ k50_mkM _ _ _ x)); (case aB => exact HB2.out); (case aS => exact HB2.out.size); (case aL => exact (by rw [← HL2.out]; simp only [List.length_append, List.length_singleton]; omega)); intro v3 wc ho hb hg hat; generalize hl3 : l2 ++ b = l3 at ho; obtain ⟨B3, d3, hv3⟩ := Kd.R_slice ho; subst hv3; have HL3 := Lib.hid hl3; clear hl3; have HO3 := Aside0.mk ho; have HB3 := Aside0.mk hb; clear ho hb hg hat)
    | (go_at_call 117; refine (q117 B3 _ d3 l3 _ (Kd.R_reads' HO3.out).2.2 (by rw [← HL3.out, ← HL2.out]; simp only [List.length_append, List.length_singleton]; omega)).mono ?_; rintro e wp ⟨AP, cp, rfl, hCP, hbp⟩; have HCP := Aside0.mk hCP; have HBP := Aside0.mk (bthen HB3.out hbp); clear hCP hbp))
  have e3 : l3 = allP a b := by rw [← HL3.out, ← HL2.out]; rfl
  subst e3
  have hpos := pts3_pos a b
  have hpl : (pts3 (allP a b)).length ≤ 1000000 := by
    have := pts3_len (allP a b)
    simp only [allP, List.length_append, List.length_singleton] at this ⊢
    omega
  generalize hps : pts3 (allP a b) = ps at *
  have HPS := Lib.hid hps
  clear hps HO1 HO3 HB1 HB3 HB0
  try clear HO2 HB2
  go_loopw [9, 10] (fun ov iv wr => ∃ (i : Nat) (B : Option Addr) (d : Nat), ov = .slice B (combTo (combF k a b) ps i).length d ∧ iv = .int .i64 ((i : Int) + 1) ∧ i + 1 ≤ ps.length ∧ Aside0 (Below wp.heap.size wp wr) ∧ Aside0 (Kd.R k50 50 wr wp.heap.size (fun _ => True) (.slice B (combTo (combF k a b) ps i).length d) (combTo (combF k a b) ps i))) (fun _ iv _ => ps.length - (intOf iv).toNat)
  case atStart => exact ⟨0, none, 0, rfl, rfl, by omega, ⟨Below.refl _ _⟩, ⟨Kd.R_nil _ _ _ _ _⟩⟩
  case round =>
    obtain ⟨i, B, d, rfl, rfl, hi', HB, HO⟩ := hrel
    have hcl := combTo_len (combF k a b) ps i
    by_cases h1 : i + 1 < ps.length
    · have hi1 : (0 : Int) ≤ i := by omega
      have hi2 : (i : Int) + 1 < ps.length := by omega
      have hi3 : (i : Int) < ps.length := by omega
      have hi4 : (0 : Int) ≤ (i : Int) + 1 := by omega
      have e4 : ((i : Int) + 1 - 1) = i := by omega
      have hw := wrap_id (i : Int) (by omega) (by omega)
      obtain ⟨ya, eya, y0p⟩ := Kd.at_int HCP.out i (by omega) (by omega)
      subst eya
      obtain ⟨za, eza, z0p⟩ := Kd.at_int HCP.out ((i : Int) + 1) (by omega) (by omega)
      obtain rfl : ya = za := by injection eza
      clear eza
      rw [Int.toNat_natCast] at y0p
      rw [show ((i : Int) + 1).toNat = i + 1 by omega, show ya.add (i + 1) = ⟨ya.block, ya.off + (i + 1), none⟩ by simp [Addr.add]] at z0p
      have HY0 := Aside0.mk y0p
      have HZ0 := Aside0.mk z0p
      have y0 := pw_cell_below HB.out y0p
      have ybl := World.block_lt_of_cell? _ _ y0
      have HA := Aside0.mk (Kd.C_below H1.out (bthen HBP.out HB.out))
      have HBb := Aside0.mk (Kd.C_below H2.out (bthen HBP.out HB.out))
      clear y0p z0p
      by_cases hf : combF k a b (rd ps i) = true
      · have HF := Lib.hid (show wantS k (sc a (rd ps i)) (sc b (rd ps i)) = true from hf)
        have HST := Lib.hid (combTo_yes (ps := ps) hf)
        clear hf
        go_wp2_with fail
        go_region_held3 (fun W => Below wr.heap.size wr W ∧ W.cell? (ya.add i) = some (.int .i64 (rd ps i)))
          (first
            | (go_split_ands; refine ⟨?_, ?_⟩ <;> first | exact bthen (by assumption) hbc | exact pw_cell_below hbc (by assumption))
            | (go_split_ands; refine ⟨?_, ?_⟩ <;> first | exact below_drew (Below.refl _ _) | exact pw_cell_below (below_drew (Below.refl _ _)) (by assumption) | go_keep))
          (first
            | (go_at_call 118; refine (q118 k (sc a (rd ps i)) (sc b (rd ps i)) _ hk).mono ?_; rintro e w5 ⟨rfl, hb5⟩; rw [HF.out]; have hbc := hb5; have hbf : Below wr.heap.size wr w5 := bthen (And.left (by assumption)) hb5)
            | (go_at_call 30; have hq4 := HSA; refine (q30 A2 _ c2 b (rd ps i) _ (Kd.C_below HBb.out (And.left (by assumption)))).mono ?_; rintro e w4 ⟨rfl, hb4⟩; have hbc := hb4)
            | (go_at_call 30; refine (q30 A1 _ c1 a (rd ps i) _ (Kd.C_below HA.out (And.left (by assumption)))).mono ?_; rintro e w3 ⟨rfl, hb3⟩; have hbc := hb3; have HSA := Aside0.mk hb3))
        all_goals
          have HB5 := Aside0.mk (bthen HB.out hbf)
          have HO5 := Aside0.mk (Kd.R_below HO.out hbf)
          have y5 := pw_cell_below HB5.out HY0.out
          have z5 := pw_cell_below HB5.out HZ0.out
          have yl5 := World.block_lt_of_cell? _ _ y5
          have zl5 := World.block_lt_of_cell? _ _ z5
          have hs5 : wp.heap.size ≤ w5.heap.size := HB5.out.size
          clear y0 ybl hbf HB HO
          go_wp2_with fail
          go_region_held3 (fun W => W.cell? (ya.add i) = some (.int .i64 (rd ps i)) ∧ W.cell? ⟨ya.block, ya.off + (i + 1), none⟩ = some (.int .i64 (rd ps ((i : Int) + 1))))
            (first
              | (refine ⟨?_, ?_⟩ <;> assumption)
              | (refine ⟨?_, ?_⟩ <;> exact pw_cell_below (below_drew (Below.refl _ _)) (by assumption)))
            (first
              | (go_at_call 119; refine (q119 _ (combTo (combF k a b) ps i) ⟨rd ps i, rd ps ((i : Int) + 1)⟩ wp _ wp.heap.size (Kd.R_below HO5.out (below_drew (Below.refl _ _))) (Below.drew HB5.out) hs5 (by omega)).mono ?_; rintro e w6 ⟨v6, rfl, hR6, hb6, _, _⟩; have hk0 := pw_cell_below hb6 HY0.out; have hk1 := pw_cell_below hb6 HZ0.out; rw [← HST.out] at hR6; obtain ⟨B', d', hv'⟩ := Kd.R_slice hR6; subst hv'; have HR6 := Aside0.mk hR6; have HB6 := Aside0.mk hb6; clear hR6 hb6))
          all_goals
            go_wp2
            exact ⟨⟨i + 1, B', d', rfl, by go_num, h1, HB6, HR6⟩, by simp [intOf]; omega⟩
      · have HF := Lib.hid (show wantS k (sc a (rd ps i)) (sc b (rd ps i)) = false from by simpa [combF] using hf)
        have HST := Lib.hid (combTo_no (ps := ps) hf)
        clear hf
        go_wp2_with fail
        go_region_held3 (fun W => Below wr.heap.size wr W ∧ W.cell? (ya.add i) = some (.int .i64 (rd ps i)))
          (first
            | (go_split_ands; refine ⟨?_, ?_⟩ <;> first | exact bthen (by assumption) hbc | exact pw_cell_below hbc (by assumption))
            | (go_split_ands; refine ⟨?_, ?_⟩ <;> first | exact below_drew (Below.refl _ _) | exact pw_cell_below (below_drew (Below.refl _ _)) (by assumption) | go_keep))
          (first
            | (go_at_call 118; refine (q118 k (sc a (rd ps i)) (sc b (rd ps i)) _ hk).mono ?_; rintro e w5 ⟨rfl, hb5⟩; rw [HF.out]; have hbc := hb5; have hbf : Below wr.heap.size wr w5 := bthen (And.left (by assumption)) hb5)
            | (go_at_call 30; have hq4 := HSA; refine (q30 A2 _ c2 b (rd ps i) _ (Kd.C_below HBb.out (And.left (by assumption)))).mono ?_; rintro e w4 ⟨rfl, hb4⟩; have hbc := hb4)
            | (go_at_call 30; refine (q30 A1 _ c1 a (rd ps i) _ (Kd.C_below HA.out (And.left (by assumption)))).mono ?_; rintro e w3 ⟨rfl, hb3⟩; have hbc := hb3; have HSA := Aside0.mk hb3))
        all_goals
          have HB5 := Aside0.mk (bthen HB.out hbf)
          have HO5 := Aside0.mk (show Kd.R k50 50 w5 wp.heap.size (fun _ => True) (.slice B (combTo (combF k a b) ps (i + 1)).length d) (combTo (combF k a b) ps (i + 1)) from by rw [HST.out]; exact Kd.R_below HO.out hbf)
          clear y0 ybl hbf HB HO
          go_wp2
          exact ⟨⟨i + 1, B, d, by rw [HST.out], by go_num, h1, HB5, HO5⟩, by simp [intOf]; omega⟩
    · have hi2 : ¬ (i : Int) + 1 < ps.length := by omega
      have hii : i = ps.length - 1 := by omega
      have HII := Lib.hid hii
      clear hii
      go_wp2
      go_ret
      exact ⟨_, rfl, by rw [← HII.out]; exact Kd.R_lower HO.out HBP.out.size, bthen HBP.out HB.out⟩
end Go.Proofs.YtiamihkfphmohaaGreatDoor.PA

namespace Go.Proofs.YtiamihkfphmohaaGreatDoor.PA
open Go.RowKit Go.Proofs.YtiamihkfphmohaaGreatDoorW.PrintWords Go.Proofs.YtiamihkfphmohaaGreatDoorW.PrintLast Go.Proofs.YtiamihkfphmohaaGreatDoorW.PrintMore

open Go.Sort
attribute [local irreducible] Go.wpQuiet
set_option maxHeartbeats 1000000 in
theorem q64 (A : Option Addr) (n c : Nat) (a : List S50) (w : World) (ha : k50.C w A n a) (hla : a.length ≤ 100000) :
    Calls Tryz.prog 64 #[.slice A n c] w (PersRes (combTo (combF 2 a []) (pts3 (allP a [])) ((pts3 (allP a [])).length - 1)) w) := by
  have HA := Aside0.mk ha
  clear ha
  go_enter Tryz.func64, Tryz.ntmps64
  go_wp2_with fail
  refine (q81 2 (.inr (.inl rfl)) A n c a none 0 0 [] w HA.out (Kd.C_nil _ _) hla (by simp)).mono ?_
  rintro e w1 ⟨v, rfl, hR, hb⟩
  have HR := Aside0.mk hR
  have HB := Aside0.mk hb
  clear hR hb
  go_wp2
  go_ret
  exact ⟨v, rfl, HR.out, HB.out⟩
set_option maxHeartbeats 4000000 in
set_option maxRecDepth 100000 in
theorem q65 (nm : ByteArray) (vc vf vk : Value) (A2 : Option Addr) (n2 c2 : Nat) (cols : List Int) (A : Option Addr) (n c : Nat) (l : List S58) (A4 : Option Addr) (n4 c4 : Nat) (key : List S82) (w : World) (hc : (Kd.int .i64).C w A2 n2 cols) (hcl : cols.length ≤ 1000000) (hr : k58.C w A n l) (hl : l.length ≤ 1000) (hk : k82.C w A4 n4 key) :
    Calls Tryz.prog 65 #[.agg #[.string nm, vc, .slice A2 n2 c2, vf, vk], .slice A n c, .slice A4 n4 c4] w (PersRes ((withS cols l key).map S58.f1) w) := by
  have mixed := mixedT
  obtain rfl := hr.1
  obtain rfl := hc.1
  obtain rfl := hk.1
  have HR := Aside0.mk hr
  have HC := Aside0.mk hc
  have HK := Aside0.mk hk
  have hb0 : Below w.heap.size w (w.alloc (.cells #[.string nm, vc, .slice A2 cols.length c2, vf, vk] 27)) := below_alloc (Below.refl _ _) _
  have HB := Aside0.mk hb0
  have HX := Aside0.mk (blk_new w (.cells #[.string nm, vc, .slice A2 cols.length c2, vf, vk] 27))
  clear hr hc hk hb0
  go_enter Tryz.func65, Tryz.ntmps65
  go_wp2
  generalize w.alloc (.cells #[.string nm, vc, .slice A2 cols.length c2, vf, vk] 27) = W0 at *
  go_loopw [7, 8] (fun v i wr => ∃ (k : Nat), i = .int .i64 k ∧ k ≤ l.length ∧ Aside0 (Below w.heap.size w wr) ∧ Aside0 (wr.heap[w.heap.size]? = some (.cells #[.string nm, vc, .slice A2 cols.length c2, vf, vk] 27 (0, 0))) ∧ Aside0 (Kd.R k50 50 wr w.heap.size (fun _ => True) v ((withS cols (l.take k) key).map S58.f1))) (fun _ i _ => l.length - (intOf i).toNat)
  case atStart => exact ⟨0, rfl, Nat.zero_le _, HB, HX, ⟨Kd.R_nil _ _ _ _ _⟩⟩
  case round =>
    clear HB HX
    obtain ⟨k, rfl, hk', HB, HX, HO⟩ := hrel
    by_cases h1 : k < l.length
    · have hst := Lib.hid (withS_step (cols := cols) (key := key) h1)
      have hwl := Nat.le_trans (List.length_filter_le (fun x => req (pick x.f0 cols) key) (l.take k)) (List.length_take_le _ _)
      have hk1 : (0 : Int) ≤ k := by omega
      have hk2 : (k : Int) < l.length := by omega
      obtain ⟨xa, A3, c3, rfl, x0, x1, x2, hle, hrow⟩ := at_T58 HR.out k (by omega) (by omega)
      rw [Int.toNat_natCast] at x0 x1 x2
      replace x0 := pw_cell_below HB.out x0
      replace x1 := pw_cell_below HB.out x1
      replace x2 := pw_cell_below HB.out x2
      have xbl := World.block_lt_of_cell? _ _ x0
      have H3 := Aside0.mk (Kd.C_below hrow HB.out)
      clear hrow
      have t0 : (wr).cell? ⟨w.heap.size, 0, none⟩ = some (.string nm) := by rw [blk_cell HX.out]; rfl
      have t1 : (wr).cell? ⟨w.heap.size, 1, none⟩ = some (vc) := by rw [blk_cell HX.out]; rfl
      have t2 : (wr).cell? ⟨w.heap.size, 2, none⟩ = some (.slice A2 cols.length c2) := by rw [blk_cell HX.out]; rfl
      have t3 : (wr).cell? ⟨w.heap.size, 3, none⟩ = some (vf) := by rw [blk_cell HX.out]; rfl
      have t4 : (wr).cell? ⟨w.heap.size, 4, none⟩ = some (vk) := by rw [blk_cell HX.out]; rfl
      have tl : w.heap.size < (wr).heap.size := World.block_lt_of_cell? _ _ t0
      go_wp2_with fail
      go_region_held3 (fun W => Below wr.heap.size wr W ∧ W.cell? ⟨w.heap.size, 0, none⟩ = some (.string nm) ∧ W.cell? ⟨w.heap.size, 1, none⟩ = some (vc) ∧ W.cell? ⟨w.heap.size, 2, none⟩ = some (.slice A2 cols.length c2) ∧ W.cell? ⟨w.heap.size, 3, none⟩ = some (vf) ∧ W.cell? ⟨w.heap.size, 4, none⟩ = some (vk) ∧ W.cell? (xa.add (k * 3)) = some (.slice A3 (rd_T58 l k).f0.length c3))
        (first
          | (go_split_ands; refine ⟨?_, ?_, ?_, ?_, ?_, ?_, ?_⟩ <;> first | exact bthen (by assumption) hbc | exact pw_cell_below hbc (by assumption))
          | (go_split_ands; refine ⟨?_, ?_, ?_, ?_, ?_, ?_, ?_⟩ <;> first | exact below_drew (Below.refl _ _) | exact below_alloc (by assumption) _ | exact pw_cell_below (below_drew (Below.refl _ _)) (by assumption) | go_keep))
        (first
          | (go_at_call 31; refine (q31 nm vc vf vk A2 _ c2 cols A3 _ c3 (rd_T58 l k).f0 _ (Kd.C_below H3.out (And.left (by assumption))) (Kd.C_below HC.out (bthen HB.out (And.left (by assumption)))) hcl).mono ?_; rintro e w5 ⟨v5, rfl, hR5, hb5⟩; obtain ⟨A10, c10, rfl⟩ := Kd.R_slice hR5; have HC10 := Aside0.mk (Kd.R_reads' hR5).2.2; have hbc := hb5; clear hR5)
          | (go_at_call 22; refine (c37 _ _ _ (pick (rd_T58 l k).f0 cols) _ _ _ key _ HC10.out (Kd.C_below HK.out (bthen HB.out (And.left (by assumption))))).mono ?_; rintro e w6 ⟨rfl, hb6⟩; have hbc := hb6; have hbf : Below wr.heap.size wr w6 := bthen (And.left (by assumption)) hb6))
      all_goals
        have HB2 := Aside0.mk (bthen HB.out hbf)
        have HX2 := Aside0.mk (blk_below HX.out hbf)
        have HO2 := Aside0.mk (Kd.R_below HO.out hbf)
        have y1 := pw_cell_below hbf x1
        have y2 := pw_cell_below hbf x2
        have ybl := World.block_lt_of_cell? _ _ y1
        clear t0 t1 t2 t3 t4 tl x0 x1 x2 xbl HB HX HO hbf
        by_cases hq : req (pick (rd_T58 l k).f0 cols) key = true
        · have hq2 : (rcmp (pick (rd_T58 l k).f0 cols) key == 0) = true := hq
          have HQ := Lib.hid hq
          clear hq
          go_wp2_with (at_builtin; refine Kd.R_append k50 (w0 := w) w.heap.size rfl (.tmp 25) (.tmp 31) 41 50 (.agg #[(.int .i64 0), (.int .i64 0)]) 16 rfl Tryz.underlying41 info50 rfl (by decide) (by omega) u7 ((withS cols (l.take k) key).map S58.f1) (rd_T58 l k).f1 [.int .i64 (rd_T58 l k).f1.f0, .int .i64 (rd_T58 l k).f1.f1] (fun _ => True) (fun _ => False) rfl rfl (k50_mkM _ _ _ (rd_T58 l k).f1) (fun _ hk => hk.elim) (fun _ _ => trivial) ?aO ?aB ?aS ?aL ?_; (case aO => exact HO2.out); (case aB => exact HB2.out); (case aS => exact HB2.out.size); (case aL => exact (by rw [List.length_map]; unfold withS; omega)); intro v1 w7 ho hb hg hat; skip)
          exact ⟨⟨k + 1, by go_num, h1, ⟨hb⟩, ⟨blk_grown HX2.out hg (R_apart HO2.out HX2.out (by intro cs e; injection e with _ e2; cases e2))⟩, ⟨by rw [hst.out, if_pos HQ.out, List.map_append]; exact ho⟩⟩, by simp [intOf]; omega⟩
        · have hq2 : (rcmp (pick (rd_T58 l k).f0 cols) key == 0) = false := by simpa [req] using hq
          have HQ := Lib.hid hq
          clear hq
          go_wp2
          exact ⟨⟨k + 1, by go_num, h1, HB2, HX2, ⟨by rw [hst.out, if_neg HQ.out, List.append_nil]; exact HO2.out⟩⟩, by simp [intOf]; omega⟩
    · go_wp2
      go_ret
      exact ⟨_, rfl, by rw [List.take_of_length_le (by omega)] at HO; exact HO.out, HB.out⟩
set_option maxHeartbeats 2000000 in
set_option maxRecDepth 100000 in
theorem q25 (nm : ByteArray) (vc vf vk : Value) (A2 : Option Addr) (n2 c2 : Nat) (cols : List Int) (A : Option Addr) (n c : Nat) (l : List S58) (A4 : Option Addr) (n4 c4 : Nat) (key : List S82) (w : World) (hc : (Kd.int .i64).C w A2 n2 cols) (hcl : cols.length ≤ 1000000) (hr : k58.C w A n l) (hl : l.length ≤ 1000) (hk : k82.C w A4 n4 key) :
    Calls Tryz.prog 25 #[.agg #[.string nm, vc, .slice A2 n2 c2, vf, vk], .slice A n c, .slice A4 n4 c4] w (PersRes (combTo (combF 2 ((withS cols l key).map S58.f1) []) (pts3 (allP ((withS cols l key).map S58.f1) [])) ((pts3 (allP ((withS cols l key).map S58.f1) [])).length - 1)) w) := by
  obtain rfl := hr.1
  obtain rfl := hc.1
  obtain rfl := hk.1
  have HR := Aside0.mk hr
  have HC := Aside0.mk hc
  have HK := Aside0.mk hk
  have HB := Aside0.mk (below_alloc (Below.refl w.heap.size w) (.cells #[.string nm, vc, .slice A2 cols.length c2, vf, vk] 27))
  clear hr hc hk
  go_enter Tryz.func25, Tryz.ntmps25
  go_wp2_with fail
  refine (q65 nm vc vf vk A2 _ c2 cols A _ c l A4 _ c4 key _ (Kd.C_below HC.out HB.out) hcl (Kd.C_below HR.out HB.out) hl (Kd.C_below HK.out HB.out)).mono ?_
  rintro e w1 ⟨v1, rfl, hR1, hb1⟩
  have hml : ((withS cols l key).map S58.f1).length ≤ 1000 := by rw [List.length_map]; exact Nat.le_trans (List.length_filter_le _ _) hl
  generalize (withS cols l key).map S58.f1 = ms at *
  obtain ⟨A5, c5, rfl⟩ := Kd.R_slice hR1
  have HM := Aside0.mk (Kd.R_reads' hR1).2.2
  have HB1 := Aside0.mk (bel1 hb1)
  clear hR1 hb1
  go_wp2_with fail
  refine (q64 A5 _ c5 ms _ HM.out (by omega)).mono ?_
  rintro e w2 ⟨v2, rfl, hR2, hb2⟩
  have HR2 := Aside0.mk (Kd.R_lower hR2 HB1.out.size)
  have HB2 := Aside0.mk (bthen HB1.out hb2)
  clear hR2 hb2
  go_wp2
  go_ret
  exact ⟨v2, rfl, HR2.out, HB2.out⟩
end Go.Proofs.YtiamihkfphmohaaGreatDoor.PA

namespace Go.Proofs.YtiamihkfphmohaaGreatDoor.PA
open Go.RowKit Go.Proofs.YtiamihkfphmohaaGreatDoorW.PrintWords Go.Proofs.YtiamihkfphmohaaGreatDoorW.PrintLast Go.Proofs.YtiamihkfphmohaaGreatDoorW.PrintMore

open Go.Sort
attribute [local irreducible] Go.wpQuiet
theorem ent29 : ∀ args w, (callFunc 29 args).run Tryz.prog w = .ok (.enter 29 args) w := enters_of Tryz.func29 (by kernel_rfl) rfl
set_option maxHeartbeats 1000000 in
theorem q29x (a b t : Int) (r : Bool) (hr : pc ⟨a, b⟩ t = r) (w : World) :
    Calls Tryz.prog 29 #[.agg #[.int .i64 a, .int .i64 b], .int .i64 t] w fun e w' => e = .returned (.bool r) ∧ ∃ q os', w' = grow (w.drewN q) os' := by
  subst hr
  go_enter Tryz.func29, Tryz.ntmps29
  go_wp2_with (go_at_call 66; refine (q66x _ _ _ rfl _).mono ?_; rintro e w1 ⟨rfl, hgr⟩; have hb1 : Below (w.alloc (.cells #[.int .i64 a, .int .i64 b] 50)).heap.size (w.alloc (.cells #[.int .i64 a, .int .i64 b] 50)) w1 := (by obtain ⟨q, os', rfl⟩ := hgr; exact below_gr _ _ _); obtain ⟨hc, hf⟩ := bcell hb1)
  all_goals
    go_ret
    refine ⟨rb (by first | (simp [pc, *]; done) | (simp [pc, *]; omega)), ?_⟩
    obtain ⟨q, os', rfl⟩ := hgr
    exact ⟨q, #[.cells #[.int .i64 a, .int .i64 b] 50] ++ os', by rw [alloc_eq_grow]; show grow (grow (w.drewN q) _) os' = _; rw [grow_grow]⟩
theorem rowsW_step {cols : List Int} {l : List S58} {key : List S82} {t : Int} {k : Nat} (h : k < l.length) : rowsAt (withS cols (l.take (k + 1)) key) t = rowsAt (withS cols (l.take k) key) t ++ (if pc (rd_T58 l k).f1 t = true ∧ req (pick (rd_T58 l k).f0 cols) key = true then [(rd_T58 l k).f0] else []) := by
  rw [withS_step h]
  unfold rowsAt
  rw [List.filter_append, List.map_append]
  by_cases h1 : req (pick (rd_T58 l k).f0 cols) key = true <;> by_cases h2 : pc (rd_T58 l k).f1 t = true <;> simp [h1, h2]
theorem rowsW_len (cols : List Int) (l : List S58) (key : List S82) (t : Int) : (rowsAt (withS cols l key) t).length ≤ l.length := Nat.le_trans (rowsAt_len _ _) (List.length_filter_le _ _)
set_option maxHeartbeats 4000000 in
set_option maxRecDepth 100000 in
theorem q21 (nm : ByteArray) (vc vf vk : Value) (A2 : Option Addr) (n2 c2 : Nat) (cols : List Int) (A : Option Addr) (n c : Nat) (l : List S58) (A4 : Option Addr) (n4 c4 : Nat) (key : List S82) (t : Int) (w : World) (hc : (Kd.int .i64).C w A2 n2 cols) (hcl : cols.length ≤ 1000000) (hr : k58.C w A n l) (hl : l.length ≤ 1000) (hk : k82.C w A4 n4 key) (hrows : ∀ x ∈ l, x.f0.length ≤ 1000000) :
    Calls Tryz.prog 21 #[.agg #[.string nm, vc, .slice A2 n2 c2, vf, vk], .slice A n c, .slice A4 n4 c4, .int .i64 t] w (FindRes (rowsAt (withS cols l key) t) w) := by
  have mixed := mixedT
  obtain rfl := hr.1
  obtain rfl := hc.1
  obtain rfl := hk.1
  have HR := Aside0.mk hr
  have HC := Aside0.mk hc
  have HK := Aside0.mk hk
  have HLR := Lib.hid hrows
  have e29 := ent29
  have hb0 : Below w.heap.size w (w.alloc (.cells #[.string nm, vc, .slice A2 cols.length c2, vf, vk] 27)) := below_alloc (Below.refl _ _) _
  have HB := Aside0.mk hb0
  have HX := Aside0.mk (blk_new w (.cells #[.string nm, vc, .slice A2 cols.length c2, vf, vk] 27))
  clear hr hc hk hb0 hrows
  go_enter Tryz.func21, Tryz.ntmps21
  go_wp2
  generalize w.alloc (.cells #[.string nm, vc, .slice A2 cols.length c2, vf, vk] 27) = W0 at *
  go_loopw [10, 11] (fun v i wr => ∃ (k : Nat), i = .int .i64 k ∧ k ≤ l.length ∧ Aside0 (Below w.heap.size w wr) ∧ Aside0 (wr.heap[w.heap.size]? = some (.cells #[.string nm, vc, .slice A2 cols.length c2, vf, vk] 27 (0, 0))) ∧ Aside0 (Kd.N kRow 34 wr w.heap.size (fun _ => True) v (rowsAt (withS cols (l.take k) key) t))) (fun _ i _ => l.length - (intOf i).toNat)
  case atStart => exact ⟨0, rfl, Nat.zero_le _, HB, HX, ⟨Kd.N_nil _ _ _ _ _⟩⟩
  case round =>
    clear HB HX
    obtain ⟨k, rfl, hk', HB, HX, HO⟩ := hrel
    by_cases h1 : k < l.length
    · have hst := Lib.hid (rowsW_step (cols := cols) (key := key) (t := t) h1)
      have hwl := Nat.le_trans (rowsW_len cols (l.take k) key t) (List.length_take_le _ _)
      have hk1 : (0 : Int) ≤ k := by omega
      have hk2 : (k : Int) < l.length := by omega
      obtain ⟨xa, A3, c3, rfl, x0, x1, x2, hle, hrow⟩ := at_T58 HR.out k (by omega) (by omega)
      rw [Int.toNat_natCast] at x0 x1 x2
      replace x0 := pw_cell_below HB.out x0
      replace x1 := pw_cell_below HB.out x1
      replace x2 := pw_cell_below HB.out x2
      have xbl := World.block_lt_of_cell? _ _ x0
      have H3 := Aside0.mk (Kd.C_below hrow HB.out)
      have HFF := Aside0.mk (Kd.C_F k82_heap hrow)
      clear hrow
      by_cases hp : pc (rd_T58 l k).f1 t = true
      · have HPC := Lib.hid (show pc ⟨(rd_T58 l k).f1.f0, (rd_T58 l k).f1.f1⟩ t = true from hp)
        have HP := Lib.hid hp
        clear hp
        have t0 : (wr).cell? ⟨w.heap.size, 0, none⟩ = some (.string nm) := by rw [blk_cell HX.out]; rfl
        have t1 : (wr).cell? ⟨w.heap.size, 1, none⟩ = some (vc) := by rw [blk_cell HX.out]; rfl
        have t2 : (wr).cell? ⟨w.heap.size, 2, none⟩ = some (.slice A2 cols.length c2) := by rw [blk_cell HX.out]; rfl
        have t3 : (wr).cell? ⟨w.heap.size, 3, none⟩ = some (vf) := by rw [blk_cell HX.out]; rfl
        have t4 : (wr).cell? ⟨w.heap.size, 4, none⟩ = some (vk) := by rw [blk_cell HX.out]; rfl
        have tl : w.heap.size < (wr).heap.size := World.block_lt_of_cell? _ _ t0
        go_wp2_with fail
        go_region_held3 (fun W => Below wr.heap.size wr W ∧ W.cell? ⟨w.heap.size, 0, none⟩ = some (.string nm) ∧ W.cell? ⟨w.heap.size, 1, none⟩ = some (vc) ∧ W.cell? ⟨w.heap.size, 2, none⟩ = some (.slice A2 cols.length c2) ∧ W.cell? ⟨w.heap.size, 3, none⟩ = some (vf) ∧ W.cell? ⟨w.heap.size, 4, none⟩ = some (vk) ∧ W.cell? (xa.add (k * 3)) = some (.slice A3 (rd_T58 l k).f0.length c3) ∧ W.cell? ⟨(xa.add (k * 3)).block, (xa.add (k * 3)).off + 1, none⟩ = some (.int .i64 (rd_T58 l k).f1.f0) ∧ W.cell? ⟨(xa.add (k * 3)).block, (xa.add (k * 3)).off + 2, none⟩ = some (.int .i64 (rd_T58 l k).f1.f1))
          (first
            | (go_split_ands; refine ⟨?_, ?_, ?_, ?_, ?_, ?_, ?_, ?_, ?_⟩ <;> first | exact bthen (by assumption) hbc | exact pw_cell_below hbc (by assumption))
            | (go_split_ands; refine ⟨?_, ?_, ?_, ?_, ?_, ?_, ?_, ?_, ?_⟩ <;> first | exact below_drew (Below.refl _ _) | exact below_alloc (by assumption) _ | exact pw_cell_below (below_drew (Below.refl _ _)) (by assumption) | go_keep))
          (first
            | (go_at_call 29; refine (c44 _ _ _ _).mono ?_; rintro e w4 ⟨rfl, hb4⟩; rw [HPC.out]; have hbc := hb4)
            | (go_at_call 31; refine (q31 nm vc vf vk A2 _ c2 cols A3 _ c3 (rd_T58 l k).f0 _ (Kd.C_below H3.out (And.left (by assumption))) (Kd.C_below HC.out (bthen HB.out (And.left (by assumption)))) hcl).mono ?_; rintro e w5 ⟨v5, rfl, hR5, hb5⟩; obtain ⟨A10, c10, rfl⟩ := Kd.R_slice hR5; have HC10 := Aside0.mk (Kd.R_reads' hR5).2.2; have hbc := hb5; clear hR5)
            | (go_at_call 22; refine (c37 _ _ _ (pick (rd_T58 l k).f0 cols) _ _ _ key _ HC10.out (Kd.C_below HK.out (bthen HB.out (And.left (by assumption))))).mono ?_; rintro e w6 ⟨rfl, hb6⟩; have hbc := hb6; have hbf : Below wr.heap.size wr w6 := bthen (And.left (by assumption)) hb6))
        all_goals
          have HB2 := Aside0.mk (bthen HB.out hbf)
          have HX2 := Aside0.mk (blk_below HX.out hbf)
          have HO2 := Aside0.mk (Kd.N_below HO.out hbf)
          have y0 := pw_cell_below hbf x0
          have ybl := World.block_lt_of_cell? _ _ y0
          have HF2 := Aside0.mk (Kd.F_below HFF.out HB2.out)
          clear t0 t1 t2 t3 t4 tl x0 x1 x2 xbl HB HX HO hbf
          by_cases hq : req (pick (rd_T58 l k).f0 cols) key = true
          · have hq2 : (rcmp (pick (rd_T58 l k).f0 cols) key == 0) = true := hq
            have HQ := Lib.hid hq
            clear hq
            go_wp2_with (at_builtin; refine Kd.N_append kRow (w0 := w) w.heap.size rfl (.tmp 37) (.tmp 43) 46 34 (.slice none 0 0) 24 rfl Tryz.underlying46 info34 rfl (by decide) (by omega) u10 (rowsAt (withS cols (l.take k) key) t) (rd_T58 l k).f0 [.slice A3 (rd_T58 l k).f0.length c3] (fun _ => True) (fun k_ => k_ < w.heap.size) rfl rfl (FK_came hle HF2.out) (fun k_ hk => ⟨trivial, fun e_ => by have := Kd.N_base HO2.out k_ e_.symm; omega⟩) (fun _ _ => trivial) ?aO ?aB ?aS ?aL ?_; (case aO => exact HO2.out); (case aB => exact HB2.out); (case aS => exact (below_size HB2.out)); (case aL => exact (by omega)); intro v1 w7 ho hb hg hat; skip)
            exact ⟨⟨k + 1, by go_num, h1, ⟨hb⟩, ⟨blk_grown HX2.out hg (N_apart HO2.out HX2.out (by intro cs e; injection e with _ e2; cases e2))⟩, ⟨by rw [hst.out, if_pos ⟨HP.out, HQ.out⟩]; exact ho⟩⟩, by simp [intOf]; omega⟩
          · have hq2 : (rcmp (pick (rd_T58 l k).f0 cols) key == 0) = false := by simpa [req] using hq
            have HQ := Lib.hid hq
            clear hq
            go_wp2
            exact ⟨⟨k + 1, by go_num, h1, HB2, HX2, ⟨by rw [hst.out, if_neg (fun h => HQ.out h.2), List.append_nil]; exact HO2.out⟩⟩, by simp [intOf]; omega⟩
      · have HPC := Lib.hid (show pc ⟨(rd_T58 l k).f1.f0, (rd_T58 l k).f1.f1⟩ t = false by simpa using hp)
        have HP := Lib.hid hp
        clear hp
        go_wp2_with fail
        have g1 := cell_grown (a := ⟨(xa.add (k * 3)).block, (xa.add (k * 3)).off + 1, none⟩) xbl x1
        have g2 := cell_grown (a := ⟨(xa.add (k * 3)).block, (xa.add (k * 3)).off + 2, none⟩) xbl x2
        clear x0 x1 x2
        go_quiet_grown ((go_at_fn 29; refine Calls.grown_of (q29x _ _ _ false HPC.out _)))
        have hbf := below_gr wr nq osq
        have HB2 := Aside0.mk (bthen HB.out hbf)
        have HX2 := Aside0.mk (blk_below HX.out hbf)
        have HO2 := Aside0.mk (Kd.N_below HO.out hbf)
        clear g1 g2 hbf
        generalize grow (wr.drewN nq) osq = w2 at *
        go_wp2
        exact ⟨⟨k + 1, by go_num, h1, HB2, HX2, ⟨by rw [hst.out, if_neg (fun h => HP.out h.1), List.append_nil]; exact HO2.out⟩⟩, by simp [intOf]; omega⟩
    · rw [List.take_of_length_le (by omega)] at HO
      have hln := rowsW_len cols l key t
      have HRO := Lib.hid (rowsAt_ok (t := t) (m := 1000000) (show ∀ x ∈ withS cols l key, x.f0.length ≤ 1000000 from fun x hx => HLR.out x (List.mem_filter.1 hx).1))
      generalize rowsAt (withS cols l key) t = rows at *
      obtain ⟨A5, c5, hv5, hc5, hC5⟩ := Kd.N_reads HO.out
      subst hv5
      have HC5 := Aside0.mk hC5
      clear hC5 HO
      by_cases h0 : rows.length = 0
      · have hz : ((rows.length : Int) == 0) = true := by simp [h0]
        obtain rfl : rows = [] := List.eq_nil_of_length_eq_zero h0
        go_wp2
        go_ret2
        exact ⟨none, 0, [], rfl, List.Perm.refl _, List.Pairwise.nil, Kd.C_nil _ _, Nat.zero_le _, HB.out⟩
      · have hz : ((rows.length : Int) == 0) = false := by rw [beq_eq_false_iff_ne]; omega
        go_wp2_with fail
        refine (q61 rows A5 c5 _ hc5 HC5.out (by omega) HRO.out).mono ?_
        rintro e w7 ⟨A6, c6, ys, rfl, hc6, hp6, hC6, hb6⟩
        have hyl : 0 < ys.length := by rw [hp6.1.length_eq]; omega
        obtain ⟨ya, A7, c7, rfl, y0, hle7, hrow7⟩ := at_L3 hC6 0 (by decide) (by omega)
        have e0 : ya.add ((0 : Int).toNat) = ya := Addr.add_zero' ya
        rw [e0] at y0
        have ybl := World.block_lt_of_cell? _ _ y0
        have hy0 : (0 : Int) < ys.length := by omega
        have HP6 := Aside0.mk hp6
        have HB6 := Aside0.mk (bthen HB.out hb6)
        have H7 := Aside0.mk hrow7
        have hne : decide (ys ≠ []) = true := by
          cases ys with
          | nil => simp at hyl
          | cons y ys => simp
        have HNE := Lib.hid hne
        clear hp6 hC6 hb6 hrow7 e0 hne
        go_wp2
        go_ret2
        exact ⟨A7, c7, ys, by rw [HNE.out]; rfl, HP6.out.1, HP6.out.2, H7.out, hle7, HB6.out⟩
end Go.Proofs.YtiamihkfphmohaaGreatDoor.PA
