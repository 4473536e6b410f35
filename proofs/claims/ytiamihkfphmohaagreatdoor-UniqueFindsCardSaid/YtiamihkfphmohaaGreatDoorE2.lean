import Derived.Shelf.SlSortCmp.QuietGrown
import Derived.Deep.RegionHeld3
import Derived.Lib.Hide
import Derived.WalkLawsBesides
import Derived.WalkSpells
import Derived.IntWalk
import Derived.Test.YtiamihkfphmohaaGreatDoorShelf
import Derived.Test.YtiamihkfphmohaaGreatDoorE1
import Derived.Test.YtiamihkfphmohaaGreatDoorA7
import Derived.Test.YtiamihkfphmohaaGreatDoorB2
set_option linter.unusedVariables false
set_option linter.unusedSimpArgs false

namespace Go.Proofs.YtiamihkfphmohaaGreatDoor.PA
open Go.RowKit Go.Proofs.YtiamihkfphmohaaGreatDoorW.PrintWords Go.Proofs.YtiamihkfphmohaaGreatDoorW.PrintLast Go.Proofs.YtiamihkfphmohaaGreatDoorW.PrintMore

/-! ### A combination of spans is as defined, plainly -/
theorem insI_sorted {l : List Int} {n : Int} (h : l.Pairwise (· < ·)) : (insI l n).Pairwise (· < ·) := by
  induction l with
  | nil => simp [insI]
  | cons x l ih =>
    rw [List.pairwise_cons] at h
    rw [insI]
    split
    · rename_i hx
      refine List.pairwise_cons.2 ⟨fun y hy => ?_, ih h.2⟩
      rcases insI_mem.1 hy with rfl | hy
      · exact hx
      · exact h.1 y hy
    · split
      · rename_i hx
        refine List.pairwise_cons.2 ⟨fun y hy => ?_, List.pairwise_cons.2 h⟩
        rcases List.mem_cons.1 hy with rfl | hy
        · exact hx
        · exact Int.lt_trans hx (h.1 y hy)
      · exact List.pairwise_cons.2 h
theorem pts3_sorted (l : List S50) : (pts3 l).Pairwise (· < ·) := by
  have : ∀ (l : List S50) (acc : List Int), acc.Pairwise (· < ·) → (l.foldl pstep acc).Pairwise (· < ·) := by
    intro l
    induction l with
    | nil => intro acc h; exact h
    | cons x l ih =>
      intro acc h
      refine ih _ ?_
      unfold pstep
      split
      · exact insI_sorted (insI_sorted h)
      · exact h
  exact this l [] List.Pairwise.nil
theorem pts3_mem {l : List S50} {z : Int} : z ∈ pts3 l ↔ ∃ p ∈ l, pv p = true ∧ (z = p.f0 ∨ z = p.f1) := by
  have : ∀ (l : List S50) (acc : List Int), z ∈ l.foldl pstep acc ↔ z ∈ acc ∨ ∃ p ∈ l, pv p = true ∧ (z = p.f0 ∨ z = p.f1) := by
    intro l
    induction l with
    | nil => intro acc; simp
    | cons x l ih =>
      intro acc
      rw [List.foldl_cons, ih]
      have hstep : z ∈ pstep acc x ↔ z ∈ acc ∨ (pv x = true ∧ (z = x.f0 ∨ z = x.f1)) := by
        unfold pstep
        by_cases hv : pv x = true
        · rw [if_pos hv, insI_mem, insI_mem]
          constructor
          · rintro (h | h | h)
            · exact .inr ⟨hv, .inr h⟩
            · exact .inr ⟨hv, .inl h⟩
            · exact .inl h
          · rintro (h | ⟨_, h | h⟩)
            · exact .inr (.inr h)
            · exact .inr (.inl h)
            · exact .inl h
        · rw [if_neg hv]
          exact ⟨.inl, fun h => h.elim id (fun h => absurd h.1 hv)⟩
      rw [hstep]
      constructor
      · rintro ((h | h) | ⟨y, hy, h⟩)
        · exact .inl h
        · exact .inr ⟨x, List.mem_cons_self .., h⟩
        · exact .inr ⟨y, List.mem_cons_of_mem _ hy, h⟩
      · rintro (h | ⟨y, hy, h⟩)
        · exact .inl (.inl h)
        · rcases List.mem_cons.1 hy with rfl | hy
          · exact .inl (.inr h)
          · exact .inr ⟨y, hy, h⟩
  rw [pts3, this]
  simp
theorem joinS_concat (init : List S50) (q p : S50) : joinS (init ++ [q]) p = if p.f0 ≤ q.f1 then init ++ [⟨q.f0, if q.f1 < p.f1 then p.f1 else q.f1⟩] else init ++ [q] ++ [p] := by
  unfold joinS
  rw [List.getLast?_concat]
  simp
/-- A period is joined to a span that ends no later than it begins. -/
theorem joinS_ok {out : List S50} {p : S50} (h : SpanOK out) (hp : pv p = true) (hl : ∀ q ∈ out, q.f1 ≤ p.f0) : SpanOK (joinS out p) ∧ (∀ t, sc (joinS out p) t = (sc out t || pc p t)) ∧ ∀ q ∈ joinS out p, q.f1 ≤ p.f1 := by
  have hpv := pv_iff.1 hp
  rcases List.eq_nil_or_concat out with rfl | ⟨init, q, rfl⟩
  · rw [joinS_nil]
    refine ⟨⟨fun r hr => ?_, List.pairwise_singleton _ _⟩, fun t => ?_, fun r hr => ?_⟩
    · rw [List.mem_singleton] at hr; subst hr; exact hp
    · rw [sc_cons, sc_nil, Bool.or_false, Bool.false_or]
    · rw [List.mem_singleton] at hr; subst hr; exact Int.le_refl _
  · rw [List.concat_eq_append] at *
    have hq := hl q (by simp)
    have hqv := pv_iff.1 (h.1 q (by simp))
    have hpw := List.pairwise_append.1 h.2
    rw [joinS_concat]
    by_cases hc : p.f0 ≤ q.f1
    · have he : q.f1 = p.f0 := by omega
      rw [if_pos hc, if_pos (by omega)]
      refine ⟨⟨fun r hr => ?_, List.pairwise_append.2 ⟨hpw.1, List.pairwise_singleton _ _, fun r hr s hs => ?_⟩⟩, fun t => ?_, fun r hr => ?_⟩
      · rcases List.mem_append.1 hr with hr | hr
        · exact h.1 r (List.mem_append_left _ hr)
        · rw [List.mem_singleton] at hr; subst hr; exact pv_iff.2 (by simp only; omega)
      · rw [List.mem_singleton] at hs
        subst hs
        exact hpw.2.2 r hr q (by simp)
      · rw [sc_append, sc_append, sc_cons, sc_nil, sc_cons, sc_nil, Bool.or_false, Bool.or_false, Bool.or_assoc]
        congr 1
        rw [Bool.eq_iff_iff, Bool.or_eq_true, pc_iff, pc_iff, pc_iff]
        simp only
        omega
      · rcases List.mem_append.1 hr with hr | hr
        · have := hl r (List.mem_append_left _ hr)
          omega
        · rw [List.mem_singleton] at hr; subst hr; exact Int.le_refl _
    · rw [if_neg hc]
      refine ⟨⟨fun r hr => ?_, List.pairwise_append.2 ⟨h.2, List.pairwise_singleton _ _, fun r hr s hs => ?_⟩⟩, fun t => ?_, fun r hr => ?_⟩
      · rcases List.mem_append.1 hr with hr | hr
        · exact h.1 r hr
        · rw [List.mem_singleton] at hr; subst hr; exact hp
      · rw [List.mem_singleton] at hs
        subst hs
        rcases List.mem_append.1 hr with hr | hr
        · have h1 := hpw.2.2 r hr q (by simp)
          omega
        · rw [List.mem_singleton] at hr; subst hr; omega
      · rw [sc_append, sc_cons, sc_nil, Bool.or_false]
      · rcases List.mem_append.1 hr with hr | hr
        · have := hl r hr
          omega
        · rw [List.mem_singleton] at hr; subst hr; exact Int.le_refl _
theorem rd_lt {ps : List Int} (h : ps.Pairwise (· < ·)) {i j : Nat} (hij : i < j) (hj : j < ps.length) : rd ps i < rd ps j := by
  have := List.pairwise_iff_getElem.1 h i j (by omega) hj hij
  simpa [Go.Proofs.YtiamihkfphmohaaGreatDoorW.PrintWords.rd, hj, (show i < ps.length by omega)] using this
theorem rd_mem {ps : List Int} {i : Nat} (h : i < ps.length) : rd ps i ∈ ps := by simp [Go.Proofs.YtiamihkfphmohaaGreatDoorW.PrintWords.rd, h]
theorem rd_of_mem {ps : List Int} {z : Int} (h : z ∈ ps) : ∃ i : Nat, i < ps.length ∧ rd ps i = z := by
  obtain ⟨i, hi, rfl⟩ := List.getElem_of_mem h
  exact ⟨i, hi, by simp [Go.Proofs.YtiamihkfphmohaaGreatDoorW.PrintWords.rd, hi]⟩
theorem combTo_ok {f : Int → Bool} {ps : List Int} (hs : ps.Pairwise (· < ·)) (hb : ∀ z ∈ ps, 0 ≤ z ∧ z ≤ 1099511627776) (hf : ∀ (k : Nat) (t : Int), k + 1 < ps.length → rd ps k ≤ t → t < rd ps (k + 1 : Nat) → f t = f (rd ps k)) :
    ∀ k : Nat, k < ps.length → SpanOK (combTo f ps k) ∧ (∀ t, sc (combTo f ps k) t = (decide (rd ps (0 : Nat) ≤ t ∧ t < rd ps k) && f t)) ∧ ∀ q ∈ combTo f ps k, q.f1 ≤ rd ps k := by
  intro k
  induction k with
  | zero =>
    intro _
    refine ⟨⟨by simp [combTo], List.Pairwise.nil⟩, fun t => ?_, by simp [combTo]⟩
    rw [combTo, sc_nil, decide_eq_false (by omega), Bool.false_and]
  | succ k ih =>
    intro hk
    obtain ⟨h1, h2, h3⟩ := ih (by omega)
    have hlt : rd ps k < rd ps (k + 1 : Nat) := rd_lt hs (Nat.lt_succ_self k) hk
    have hb1 := hb _ (rd_mem (show k < ps.length by omega))
    have hb2 := hb _ (rd_mem hk)
    have hz : rd ps (0 : Nat) ≤ rd ps k := by
      rcases Nat.eq_zero_or_pos k with rfl | h0
      · exact Int.le_refl _
      · exact Int.le_of_lt (rd_lt hs h0 (by omega))
    rw [combTo]
    by_cases hfk : f (rd ps k) = true
    · rw [if_pos hfk]
      have hpv : pv (⟨rd ps k, rd ps (k + 1 : Nat)⟩ : S50) = true := pv_iff.2 ⟨hb1.1, hlt, hb2.2⟩
      obtain ⟨g1, g2, g3⟩ := joinS_ok h1 hpv h3
      refine ⟨g1, fun t => ?_, g3⟩
      rw [g2, h2, Bool.eq_iff_iff, Bool.or_eq_true, Bool.and_eq_true, Bool.and_eq_true, decide_eq_true_iff, decide_eq_true_iff, pc_iff]
      simp only
      constructor
      · rintro (⟨h4, h5⟩ | ⟨_, h4, h5⟩)
        · exact ⟨⟨h4.1, by omega⟩, h5⟩
        · exact ⟨⟨by omega, h5⟩, by rw [hf k t hk h4 h5]; exact hfk⟩
      · rintro ⟨⟨h4, h5⟩, h6⟩
        by_cases h7 : t < rd ps k
        · exact .inl ⟨⟨h4, h7⟩, h6⟩
        · exact .inr ⟨⟨hb1.1, hlt, hb2.2⟩, by omega, h5⟩
    · rw [if_neg hfk]
      refine ⟨h1, fun t => ?_, fun q hq => Int.le_trans (h3 q hq) (Int.le_of_lt hlt)⟩
      rw [h2, Bool.eq_iff_iff, Bool.and_eq_true, Bool.and_eq_true, decide_eq_true_iff, decide_eq_true_iff]
      constructor
      · rintro ⟨h4, h5⟩
        exact ⟨⟨h4.1, by omega⟩, h5⟩
      · rintro ⟨⟨h4, h5⟩, h6⟩
        by_cases h7 : t < rd ps k
        · exact ⟨⟨h4, h7⟩, h6⟩
        · rw [hf k t hk (by omega) h5] at h6
          exact absurd h6 hfk
theorem sc_between {a l : List S50} (hsub : ∀ p ∈ a, p ∈ l) {k : Nat} {t : Int} (hk : k + 1 < (pts3 l).length) (h1 : rd (pts3 l) k ≤ t) (h2 : t < rd (pts3 l) (k + 1 : Nat)) : sc a t = sc a (rd (pts3 l) k) := by
  have hs := pts3_sorted l
  have key : ∀ z ∈ pts3 l, (z ≤ t ↔ z ≤ rd (pts3 l) k) := by
    intro z hz
    obtain ⟨i, hi, rfl⟩ := rd_of_mem hz
    constructor
    · intro h
      rcases Nat.lt_or_ge k i with hki | hki
      · have : rd (pts3 l) (k + 1 : Nat) ≤ rd (pts3 l) i := by
          rcases Nat.eq_or_lt_of_le (show k + 1 ≤ i from hki) with e | e
          · rw [e]; exact Int.le_refl _
          · exact Int.le_of_lt (rd_lt hs e hi)
        omega
      · rcases Nat.eq_or_lt_of_le hki with e | e
        · rw [e]; exact Int.le_refl _
        · exact Int.le_of_lt (rd_lt hs e (by omega))
    · intro h; omega
  rw [Bool.eq_iff_iff, sc_iff, sc_iff]
  constructor
  · rintro ⟨p, hp, hpt⟩
    have h3 := pc_iff.1 hpt
    have hv := pv_iff.2 h3.1
    have k0 := key p.f0 (pts3_mem.2 ⟨p, hsub p hp, hv, .inl rfl⟩)
    have k1 := key p.f1 (pts3_mem.2 ⟨p, hsub p hp, hv, .inr rfl⟩)
    exact ⟨p, hp, pc_iff.2 ⟨h3.1, k0.1 h3.2.1, by omega⟩⟩
  · rintro ⟨p, hp, hpt⟩
    have h3 := pc_iff.1 hpt
    have hv := pv_iff.2 h3.1
    have k0 := key p.f0 (pts3_mem.2 ⟨p, hsub p hp, hv, .inl rfl⟩)
    have k1 := key p.f1 (pts3_mem.2 ⟨p, hsub p hp, hv, .inr rfl⟩)
    refine ⟨p, hp, pc_iff.2 ⟨h3.1, by omega, ?_⟩⟩
    apply Classical.byContradiction
    intro hn
    have := k1.1 (by omega)
    omega
/-- P3.3. -/
theorem comb_ok (k : Int) (a b : List S50) : SpanOK (combTo (combF k a b) (pts3 (allP a b)) ((pts3 (allP a b)).length - 1)) ∧ ∀ t, sc (combTo (combF k a b) (pts3 (allP a b)) ((pts3 (allP a b)).length - 1)) t = (decide (0 ≤ t ∧ t < 1099511627776) && wantS k (sc a t) (sc b t)) := by
  have hs := pts3_sorted (allP a b)
  have hpos := pts3_pos a b
  have hb : ∀ z ∈ pts3 (allP a b), 0 ≤ z ∧ z ≤ 1099511627776 := by
    intro z hz
    obtain ⟨p, _, hv, h⟩ := pts3_mem.1 hz
    have := pv_iff.1 hv
    omega
  have hf : ∀ (j : Nat) (t : Int), j + 1 < (pts3 (allP a b)).length → rd (pts3 (allP a b)) j ≤ t → t < rd (pts3 (allP a b)) (j + 1 : Nat) → combF k a b t = combF k a b (rd (pts3 (allP a b)) j) := by
    intro j t hj h1 h2
    unfold combF
    rw [sc_between (a := a) (fun p hp => by simp [allP, hp]) hj h1 h2, sc_between (a := b) (fun p hp => by simp [allP, hp]) hj h1 h2]
  obtain ⟨h1, h2, _⟩ := combTo_ok (f := combF k a b) hs hb hf ((pts3 (allP a b)).length - 1) (by omega)
  have h00 : pv (⟨0, 1099511627776⟩ : S50) = true := by decide
  have hz : rd (pts3 (allP a b)) (0 : Nat) = 0 := by
    obtain ⟨i, hi, he⟩ := rd_of_mem (pts3_mem.2 ⟨⟨0, 1099511627776⟩, by simp [allP], h00, .inl rfl⟩ : (0 : Int) ∈ pts3 (allP a b))
    have h3 := (hb _ (rd_mem hpos)).1
    rcases Nat.eq_zero_or_pos i with rfl | h0
    · exact he
    · have := rd_lt hs h0 hi
      omega
  have hl : rd (pts3 (allP a b)) ((pts3 (allP a b)).length - 1 : Nat) = 1099511627776 := by
    obtain ⟨i, hi, he⟩ := rd_of_mem (pts3_mem.2 ⟨⟨0, 1099511627776⟩, by simp [allP], h00, .inr rfl⟩ : (1099511627776 : Int) ∈ pts3 (allP a b))
    have h3 := (hb _ (rd_mem (show (pts3 (allP a b)).length - 1 < (pts3 (allP a b)).length by omega))).2
    rcases Nat.eq_or_lt_of_le (show i ≤ (pts3 (allP a b)).length - 1 by omega) with e | e
    · rw [← e]; exact he
    · have := rd_lt hs e (by omega)
      omega
  refine ⟨h1, fun t => ?_⟩
  rw [h2, hz, hl]
  rfl
end Go.Proofs.YtiamihkfphmohaaGreatDoor.PA

namespace Go.Proofs.YtiamihkfphmohaaGreatDoor.PA
open Go.RowKit Go.Proofs.YtiamihkfphmohaaGreatDoorW.PrintWords Go.Proofs.YtiamihkfphmohaaGreatDoorW.PrintLast Go.Proofs.YtiamihkfphmohaaGreatDoorW.PrintMore

open Go.Sort
attribute [local irreducible] Go.wpQuiet
/-- The rows with a key. -/
def keyed (cols : List Int) (key : List S82) (rows : List (List S82)) : List (List S82) := rows.filter (fun r => req (pick r cols) key)
theorem take3 {rows : List (List S82)} {i : Nat} (h : i < rows.length) : rows.take (i + 1) = rows.take i ++ [rd_L3 rows i] := by
  rw [List.take_succ_eq_append_getElem h]
  simp [rd_L3, h]
def NumTo (cols : List Int) (key : List S82) (rows : List (List S82)) (i : Nat) (n : Int) : Prop := n = ((keyed cols key (rows.take i)).length : Int)
theorem numTo_zero (cols : List Int) (key : List S82) (rows : List (List S82)) : NumTo cols key rows 0 0 := rfl
theorem numTo_yes {cols : List Int} {key : List S82} {rows : List (List S82)} {i : Nat} {n : Int} (h : NumTo cols key rows i n) (hi : i < rows.length) (hq : rcmp (pick (rd_L3 rows i) cols) key = 0) : NumTo cols key rows (i + 1) (n + 1) := by
  have h2 : req (pick (rd_L3 rows i) cols) key = true := by simp [req, hq]
  unfold NumTo keyed at *
  rw [take3 hi, List.filter_append, List.filter_cons, if_pos h2, h]
  simp
theorem numTo_no {cols : List Int} {key : List S82} {rows : List (List S82)} {i : Nat} {n : Int} (h : NumTo cols key rows i n) (hi : i < rows.length) (hq : ¬ rcmp (pick (rd_L3 rows i) cols) key = 0) : NumTo cols key rows (i + 1) n := by
  have h2 : ¬ req (pick (rd_L3 rows i) cols) key = true := by simp [req, hq]
  unfold NumTo keyed at *
  rw [take3 hi, List.filter_append, List.filter_cons, if_neg h2, h]
  simp
theorem numTo_bound {cols : List Int} {key : List S82} {rows : List (List S82)} {i : Nat} {n : Int} (h : NumTo cols key rows i n) : 0 ≤ n ∧ n ≤ i := by
  have h1 := List.length_filter_le (fun r => req (pick r cols) key) (rows.take i)
  unfold NumTo keyed at h
  rw [List.length_take] at h1
  omega
def ThereTo (row : List S82) (rows : List (List S82)) (i : Nat) (b : Bool) : Prop := b = true ↔ ∃ j : Nat, j < i ∧ rcmp (rd_L3 rows j) row = 0
theorem thereTo_zero (row : List S82) (rows : List (List S82)) : ThereTo row rows 0 false := ⟨(fun h => by cases h), fun ⟨_, h, _⟩ => by omega⟩
theorem thereTo_keep {row : List S82} {rows : List (List S82)} {i : Nat} (h : ThereTo row rows i true) : ThereTo row rows (i + 1) true := by
  obtain ⟨j, hj, hp⟩ := h.1 rfl
  exact ⟨fun _ => ⟨j, by omega, hp⟩, fun _ => rfl⟩
theorem thereTo_new {row : List S82} {rows : List (List S82)} {i : Nat} (h : ThereTo row rows i false) : ThereTo row rows (i + 1) (rcmp (rd_L3 rows i) row == 0) := by
  constructor
  · intro hp
    exact ⟨i, by omega, by simpa using hp⟩
  · rintro ⟨j, hj, hp⟩
    rcases Nat.lt_succ_iff_lt_or_eq.1 hj with h2 | h2
    · exact absurd (h.2 ⟨j, h2, hp⟩) (by simp)
    · subst h2; simp [hp]
theorem there_all {row : List S82} {rows : List (List S82)} {i : Nat} {b : Bool} (h : ThereTo row rows i b) (hi : i = rows.length) (hm : row ∈ rows) : b = true := by
  subst hi
  obtain ⟨j, hj, rfl⟩ := List.getElem_of_mem hm
  exact h.2 ⟨j, hj, by rw [show rd_L3 rows (j : Int) = rows[j] by simp [rd_L3, hj]]; exact (rcmp_ord.eq0 _ _).2 rfl⟩
theorem cnt_keyed {cols : List Int} {key : List S82} {t : Int} (l : List S58) : cnt (perS cols l (encK key)) t = ((keyed cols key (rowsAt l t)).length : Int) := by
  induction l with
  | nil => rfl
  | cons x l ih =>
    have hr : rowsAt (x :: l) t = if pc x.f1 t = true then x.f0 :: rowsAt l t else rowsAt l t := by
      unfold rowsAt
      by_cases hp : pc x.f1 t = true <;> simp [hp]
    rw [perS_cons, hr]
    by_cases he : encK (pick x.f0 cols) = encK key
    · have h2 : req (pick x.f0 cols) key = true := req_iff.2 (encK_inj he)
      rw [if_pos he, cnt_cons, ih]
      by_cases hp : pc x.f1 t = true
      · rw [if_pos hp, if_pos hp]
        unfold keyed
        rw [List.filter_cons, if_pos h2, List.length_cons]
        omega
      · rw [if_neg hp, if_neg hp, Int.zero_add]
    · have h2 : ¬ req (pick x.f0 cols) key = true := fun h => he (by rw [req_iff.1 h])
      rw [if_neg he, ih]
      by_cases hp : pc x.f1 t = true
      · rw [if_pos hp]
        unfold keyed
        rw [List.filter_cons, if_neg h2]
      · rw [if_neg hp]
theorem num_one {cols : List Int} {key row : List S82} {l : List S58} {t : Int} {rows : List (List S82)} {i : Nat} {n : Int} (h : NumTo cols key rows i n) (hi : i = rows.length) (hp : rows.Perm (rowsAt l t)) (hH : HoldsP cols l) (hx : row ∈ rowsAt l t) (hk : pick row cols = key) : n = 1 := by
  subst hi
  unfold NumTo at h
  rw [List.take_length] at h
  have h1 : (keyed cols key rows).length = (keyed cols key (rowsAt l t)).length := (hp.filter _).length_eq
  rw [h1, ← cnt_keyed] at h
  have h2 : ¬ 2 ≤ cnt (perS cols l (encK key)) t := fun hc => holds_twice.1 hH t ⟨_, hc⟩
  have h3 : 0 < (keyed cols key (rowsAt l t)).length := List.length_pos_of_mem (List.mem_filter.2 ⟨hx, req_iff.2 hk⟩)
  rw [h] at *
  rw [cnt_keyed] at *
  omega
theorem life_at {l : List S58} {ys : List (List S82)} {sp : List S50} {t : Int} (hp : ys.Perm (rowsAt l t)) (hs : ∀ t, sc sp t = (decide (0 ≤ t ∧ t < 1099511627776) && sc (l.map S58.f1) t)) : sc sp t = decide (ys ≠ []) := by
  rw [Bool.eq_iff_iff, hs t, Bool.and_eq_true, decide_eq_true_iff, decide_eq_true_iff]
  constructor
  · rintro ⟨_, h2⟩ he
    obtain ⟨p, hp', hpt⟩ := sc_iff.1 h2
    obtain ⟨x, hx, rfl⟩ := List.mem_map.1 hp'
    have : x.f0 ∈ ys := hp.mem_iff.2 (List.mem_map.2 ⟨x, List.mem_filter.2 ⟨hx, hpt⟩, rfl⟩)
    rw [he] at this
    simp at this
  · intro hne
    obtain ⟨r, hr⟩ := List.exists_mem_of_ne_nil _ hne
    obtain ⟨x, hx, hpt, _⟩ := rowsAt_mem (hp.mem_iff.1 hr)
    have := pc_iff.1 hpt
    exact ⟨by omega, sc_iff.2 ⟨x.f1, List.mem_map.2 ⟨x, hx, rfl⟩, hpt⟩⟩
theorem find_row {cols : List Int} {key : List S82} {l : List S58} {ys : List (List S82)} {t : Int} (hp : ys.Perm (rowsAt (withS cols l key) t)) (hne : ys ≠ []) : rd_L3 ys 0 ∈ rowsAt l t ∧ pick (rd_L3 ys 0) cols = key := by
  have h0 : 0 < ys.length := List.length_pos_iff.2 hne
  have hm : rd_L3 ys 0 ∈ ys := by simp [rd_L3, h0]
  obtain ⟨x, hx, hpt, hr⟩ := rowsAt_mem (hp.mem_iff.1 hm)
  have hx' := List.mem_filter.1 hx
  rw [← hr]
  exact ⟨List.mem_map.2 ⟨x, List.mem_filter.2 ⟨hx'.1, hpt⟩, rfl⟩, req_iff.1 hx'.2⟩
end Go.Proofs.YtiamihkfphmohaaGreatDoor.PA

namespace Go.Proofs.YtiamihkfphmohaaGreatDoor.PA
open Go.RowKit Go.Proofs.YtiamihkfphmohaaGreatDoorW.PrintWords Go.Proofs.YtiamihkfphmohaaGreatDoorW.PrintLast Go.Proofs.YtiamihkfphmohaaGreatDoorW.PrintMore

open Go.Sort
attribute [local irreducible] Go.wpQuiet
theorem life_eq {ms r : List S50} (h1 : SpanOK r) (h2 : ∀ t, sc r t = (decide (0 ≤ t ∧ t < 1099511627776) && sc ms t)) : r = combTo (combF 2 ms []) (pts3 (allP ms [])) ((pts3 (allP ms [])).length - 1) := by
  have h := comb_ok 2 ms []
  refine span_unique h1 h.1 (fun t => ?_)
  rw [h2, h.2, sc_nil]
  simp [wantS]
set_option maxHeartbeats 8000000 in
set_option maxRecDepth 100000 in
/-- UniqueFinds returns true. -/
theorem c4f (t : Tbl) (A1 A2 A3 A4 : Option Addr) (c1 c2 c3 c4 : Nat) (l : List S58) (A : Option Addr) (c : Nat) (key : List S82) (at_ : Int) (A5 : Option Addr) (c5 : Nat) (w : World) (hT : TK w t A1 A2 A3 A4 c1 c2 c3 c4) (hI : TIn t) (hL : k58.C w A l.length l) (hF : ∀ x ∈ l, FIn x) (hK : k82.C w A5 key.length key) (hkm : key.length ≤ 9223372036854775807) (hTb : TabOK w) : Calls Tryz.prog 4 #[.agg #[.string t.nm, .slice A1 t.cols.length c1, .slice A2 t.key.length c2, .slice A3 t.fors.length c3, .slice A4 t.chks.length c4], .slice A l.length c, .agg #[.slice A5 key.length c5, .int .i64 at_]] w fun e w' => e = .returned (.bool true) ∧ Below w.heap.size w w' := by
  have mixed := mixedT
  have HT := Aside0.mk hT
  have HI := Lib.hid hI
  have HL := Aside0.mk hL
  have HF := Lib.hid hF
  have HK := Aside0.mk hK
  have HTB := Aside0.mk hTb
  have hsz : (w.alloc (.cells #[.string t.nm, .slice A1 t.cols.length c1, .slice A2 t.key.length c2, .slice A3 t.fors.length c3, .slice A4 t.chks.length c4] 27)).heap.size = w.heap.size + 1 := by simp
  have hpt := blk_alloc (blk_new w (.cells #[.string t.nm, .slice A1 t.cols.length c1, .slice A2 t.key.length c2, .slice A3 t.fors.length c3, .slice A4 t.chks.length c4] 27)) (.cells #[.slice A5 key.length c5, .int .i64 at_] 36)
  have hpk := blk_new (w.alloc (.cells #[.string t.nm, .slice A1 t.cols.length c1, .slice A2 t.key.length c2, .slice A3 t.fors.length c3, .slice A4 t.chks.length c4] 27)) (.cells #[.slice A5 key.length c5, .int .i64 at_] 36)
  rw [hsz] at hpk
  have hbz : Below w.heap.size w ((w.alloc (.cells #[.string t.nm, .slice A1 t.cols.length c1, .slice A2 t.key.length c2, .slice A3 t.fors.length c3, .slice A4 t.chks.length c4] 27)).alloc (.cells #[.slice A5 key.length c5, .int .i64 at_] 36)) := below_alloc (below_alloc (Below.refl _ _) _) _
  clear hT hI hL hF hTb hK hsz
  go_enter Tryz.func4, Tryz.ntmps4
  go_wp2_with fail
  refine (q13 t A1 A2 A3 A4 c1 c2 c3 c4 l A c _ (HT.out.below hbz) HI.out (Kd.C_below HL.out hbz) HF.out).mono ?_
  rintro e w1 ⟨b1, rfl, h1, hb1⟩
  have HB := Aside0.mk (bel2 hb1)
  have HX := Aside0.mk (blk_below hpt hb1)
  have HY := Aside0.mk (blk_below hpk hb1)
  have HP := Lib.hid h1
  clear hpt hpk hb1 h1 hbz
  have s0 : (w1).cell? ⟨w.heap.size + 1, 0, none⟩ = some (.slice A5 key.length c5) := by rw [blk_cell HY.out]; rfl
  have s1 : (w1).cell? ⟨w.heap.size + 1, 1, none⟩ = some (.int .i64 at_) := by rw [blk_cell HY.out]; rfl
  have sl : w.heap.size + 1 < (w1).heap.size := World.block_lt_of_cell? _ _ s0
  cases b1 with
  | false =>
    go_wp2_with fail
    refine (c14 _ (tab_below HTB.out HB.out)).mono ?_
    rintro e w2 ⟨rfl, hb2⟩
    have HB2 := Aside0.mk (bthen HB.out hb2)
    clear hb2
    go_wp2
    go_ret
    exact ⟨rfl, HB2.out⟩
  | true =>
  replace HP := Lib.hid (HP.out rfl)
  have hll : l.length ≤ 16 := by have := HP.out.few.1; omega
  have hkl : t.key.length ≤ 1000000 := by have := HP.out.bel.key; have := HP.out.cols; omega
  have hkl2 : t.key.length ≤ 1000 := by have := HP.out.bel.key; have := HP.out.cols; omega
  by_cases hk6 : 60 < key.length
  · have hk7 : (60 : Int) < key.length := by omega
    go_wp2_with fail
    refine (c14 _ (tab_below HTB.out HB.out)).mono ?_
    rintro e w2 ⟨rfl, hb2⟩
    have HB2 := Aside0.mk (bthen HB.out hb2)
    clear hb2
    go_wp2
    go_ret
    exact ⟨rfl, HB2.out⟩
  have hk7 : ¬ (60 : Int) < key.length := by omega
  have t0 : (w1).cell? ⟨w.heap.size, 0, none⟩ = some (.string t.nm) := by rw [blk_cell HX.out]; rfl
  have t1 : (w1).cell? ⟨w.heap.size, 1, none⟩ = some (.slice A1 t.cols.length c1) := by rw [blk_cell HX.out]; rfl
  have t2 : (w1).cell? ⟨w.heap.size, 2, none⟩ = some (.slice A2 t.key.length c2) := by rw [blk_cell HX.out]; rfl
  have t3 : (w1).cell? ⟨w.heap.size, 3, none⟩ = some (.slice A3 t.fors.length c3) := by rw [blk_cell HX.out]; rfl
  have t4 : (w1).cell? ⟨w.heap.size, 4, none⟩ = some (.slice A4 t.chks.length c4) := by rw [blk_cell HX.out]; rfl
  have tl := World.block_lt_of_cell? _ _ t1
  go_wp2_with fail
  refine (c35 _ _ _ _ _ _ _ t.key _ _ _ l _ _ _ key at_ _ (HT.out.below HB.out).key hkl (Kd.C_below HL.out HB.out) (by omega) (Kd.C_below HK.out HB.out) HP.out.rows.len).mono ?_
  rintro e w2 ⟨AR, cR, ys, rfl, hp, hs, hCR, hleR, hb2⟩
  have HB2 := Aside0.mk (bthen HB.out hb2)
  have HX2 := Aside0.mk (blk_below HX.out hb2)
  have HY2 := Aside0.mk (blk_below HY.out hb2)
  clear t0 t1 t2 t3 t4 tl s0 s1 sl hk7 hk6 hb2 HB HX HY
  have HYS := Aside0.mk (And.intro hp (And.intro hs hCR))
  clear hp hs hCR
  have hln : (rd_L3 ys 0).length ≤ 60 := by
    by_cases hy : ys = []
    · rw [hy]; simp [rd_L3]
    · have h0 : 0 < ys.length := List.length_pos_iff.2 hy
      obtain ⟨x, hx, _, hr⟩ := rowsAt_mem (HYS.out.1.mem_iff.1 (show rd_L3 ys 0 ∈ ys by simp [rd_L3, h0]))
      rw [← hr]
      exact HP.out.few.2 x (List.mem_filter.1 hx).1
  have t0 : (w2).cell? ⟨w.heap.size, 0, none⟩ = some (.string t.nm) := by rw [blk_cell HX2.out]; rfl
  have t1 : (w2).cell? ⟨w.heap.size, 1, none⟩ = some (.slice A1 t.cols.length c1) := by rw [blk_cell HX2.out]; rfl
  have t2 : (w2).cell? ⟨w.heap.size, 2, none⟩ = some (.slice A2 t.key.length c2) := by rw [blk_cell HX2.out]; rfl
  have t3 : (w2).cell? ⟨w.heap.size, 3, none⟩ = some (.slice A3 t.fors.length c3) := by rw [blk_cell HX2.out]; rfl
  have t4 : (w2).cell? ⟨w.heap.size, 4, none⟩ = some (.slice A4 t.chks.length c4) := by rw [blk_cell HX2.out]; rfl
  have tl := World.block_lt_of_cell? _ _ t1
  have s0 : (w2).cell? ⟨w.heap.size + 1, 0, none⟩ = some (.slice A5 key.length c5) := by rw [blk_cell HY2.out]; rfl
  have s1 : (w2).cell? ⟨w.heap.size + 1, 1, none⟩ = some (.int .i64 at_) := by rw [blk_cell HY2.out]; rfl
  have sl : w.heap.size + 1 < (w2).heap.size := World.block_lt_of_cell? _ _ s0
  generalize hdec : decide (ys ≠ []) = isb at *
  have HDC := Lib.hid hdec
  clear hdec
  go_wp2_with fail
  refine (q21 _ _ _ _ _ _ _ t.key _ _ _ l _ _ _ key at_ _ (HT.out.below HB2.out).key hkl (Kd.C_below HL.out HB2.out) (by omega) (Kd.C_below HK.out HB2.out) HP.out.rows.len).mono ?_
  rintro e wr ⟨AS, cS, zs, rfl, hp3, hs3, hCS, hleS, hb3⟩
  obtain rfl : zs = ys := rcmp_ord.sorted_unique hs3 HYS.out.2.1 (hp3.trans HYS.out.1.symm)
  have hd3 : decide (zs ≠ []) = isb := HDC.out
  rw [hd3]
  have HB := Aside0.mk (bthen HB2.out hb3)
  have HX := Aside0.mk (blk_below HX2.out hb3)
  have HY := Aside0.mk (blk_below HY2.out hb3)
  have HRA := Aside0.mk (Kd.C_below HYS.out.2.2 hb3)
  have HRB := Aside0.mk hCS
  clear t0 t1 t2 t3 t4 tl s0 s1 sl hb3 hp3 hs3 hCS hd3 HB2 HX2 HY2 HYS
  generalize rd_L3 zs 0 = rowa at *
  have t0 : (wr).cell? ⟨w.heap.size, 0, none⟩ = some (.string t.nm) := by rw [blk_cell HX.out]; rfl
  have t1 : (wr).cell? ⟨w.heap.size, 1, none⟩ = some (.slice A1 t.cols.length c1) := by rw [blk_cell HX.out]; rfl
  have t2 : (wr).cell? ⟨w.heap.size, 2, none⟩ = some (.slice A2 t.key.length c2) := by rw [blk_cell HX.out]; rfl
  have t3 : (wr).cell? ⟨w.heap.size, 3, none⟩ = some (.slice A3 t.fors.length c3) := by rw [blk_cell HX.out]; rfl
  have t4 : (wr).cell? ⟨w.heap.size, 4, none⟩ = some (.slice A4 t.chks.length c4) := by rw [blk_cell HX.out]; rfl
  have tl := World.block_lt_of_cell? _ _ t1
  have s0 : (wr).cell? ⟨w.heap.size + 1, 0, none⟩ = some (.slice A5 key.length c5) := by rw [blk_cell HY.out]; rfl
  have s1 : (wr).cell? ⟨w.heap.size + 1, 1, none⟩ = some (.int .i64 at_) := by rw [blk_cell HY.out]; rfl
  have sl : w.heap.size + 1 < (wr).heap.size := World.block_lt_of_cell? _ _ s0
  cases isb <;> go_wp2_with fail
  all_goals
    go_region_held3 (fun W => Below wr.heap.size wr W ∧ W.cell? ⟨w.heap.size, 0, none⟩ = some (.string t.nm) ∧ W.cell? ⟨w.heap.size, 1, none⟩ = some (.slice A1 t.cols.length c1) ∧ W.cell? ⟨w.heap.size, 2, none⟩ = some (.slice A2 t.key.length c2) ∧ W.cell? ⟨w.heap.size, 3, none⟩ = some (.slice A3 t.fors.length c3) ∧ W.cell? ⟨w.heap.size, 4, none⟩ = some (.slice A4 t.chks.length c4) ∧ W.cell? ⟨w.heap.size + 1, 0, none⟩ = some (.slice A5 key.length c5) ∧ W.cell? ⟨w.heap.size + 1, 1, none⟩ = some (.int .i64 at_))
      (first
        | (go_split_ands; refine ⟨?_, ?_, ?_, ?_, ?_, ?_, ?_, ?_⟩ <;> first | exact bthen (by assumption) hbc | exact pw_cell_below hbc (by assumption))
        | (go_split_ands; refine ⟨?_, ?_, ?_, ?_, ?_, ?_, ?_, ?_⟩ <;> first | exact below_drew (Below.refl _ _) | exact below_alloc (by assumption) _ | exact pw_cell_below (below_drew (Below.refl _ _)) (by assumption) | go_keep))
      (first
        | (go_at_call 22; refine (c37 _ _ _ rowa _ _ _ rowa _ (Kd.C_below HRA.out (And.left (by assumption))) (Kd.C_below HRB.out (And.left (by assumption)))).mono ?_; rintro e w6 ⟨rfl, hb6⟩; rw [(rcmp_ord.eq0 rowa rowa).2 rfl]; have hbc := hb6)
        | (go_at_call 24; refine (c39 _ _ _ _ _ _ _ t.key _ _ _ l _ _ _ key _ (HT.out.below (bthen HB.out (And.left (by assumption)))).key hkl (Kd.C_below HL.out (bthen HB.out (And.left (by assumption)))) (by omega) (Kd.C_below HK.out (bthen HB.out (And.left (by assumption))))).mono ?_; rintro e w3 ⟨v3, spa, rfl, hsp1, hsp2, hsp3, hR3, hb3⟩; obtain ⟨A9, c9, rfl⟩ := Kd.R_slice hR3; have HC9 := Aside0.mk (Kd.R_reads' hR3).2.2; have HSP := Aside0.mk (And.intro hsp1 hsp2); have hbc := hb3; clear hsp1 hsp2 hsp3 hR3)
        | (go_at_call 25; refine (q25 _ _ _ _ _ _ _ t.key _ _ _ l _ _ _ key _ (HT.out.below (bthen HB.out (And.left (by assumption)))).key hkl (Kd.C_below HL.out (bthen HB.out (And.left (by assumption)))) (by omega) (Kd.C_below HK.out (bthen HB.out (And.left (by assumption))))).mono ?_; rintro e w4 ⟨v4, rfl, hR4, hb4⟩; have hcl4 := Lib.hid (life_eq HSP.out.1 HSP.out.2); rw [← hcl4.out] at hR4; obtain ⟨A10, c10, rfl⟩ := Kd.R_slice hR4; have HC10 := Aside0.mk (Kd.R_reads' hR4).2.2; have HC91 := Aside0.mk (Kd.C_below HC9.out hb4); have hbc := hb4; clear hR4)
        | (go_at_call 23; refine (c28s _ _ _ spa _ _ _ spa _ HC91.out HC10.out).mono ?_; rintro e w5 ⟨rfl, hb5⟩; rw [sameP_iff.2 (rfl : spa = spa)]; have hbc := hb5)
        | (go_at_call 14; refine (c14 _ (tab_below HTB.out (bthen HB.out (And.left (by assumption))))).mono ?_; rintro e w5 ⟨rfl, hb5⟩; have hbc := hb5; have hbf : Below wr.heap.size wr w5 := bthen (And.left (by assumption)) hb5))
    all_goals
      have HB7 := Aside0.mk (bthen HB.out hbf)
      go_wp2
      go_ret
      exact ⟨rfl, HB7.out⟩
end Go.Proofs.YtiamihkfphmohaaGreatDoor.PA

namespace Go.Proofs.YtiamihkfphmohaaGreatDoor.PA
open Go.RowKit Go.Proofs.YtiamihkfphmohaaGreatDoorW.PrintWords Go.Proofs.YtiamihkfphmohaaGreatDoorW.PrintLast Go.Proofs.YtiamihkfphmohaaGreatDoorW.PrintMore
open Go.ChangeShapes Go.WideShapes Go.ChangeAt

/-! ### A key with an instant; a row of values -/
section
variable {H : Type} {enc : TypeId × Value → H} {W : World} {v : Value} {d : DataW H} {p : List MemPlace} {base : Nat} {sp : Nat → Bool} {hd : Bool}
theorem co36 : Tryz.prog.cellsOf 36 = 2 := by kernel_rfl
set_option maxRecDepth 100000 in
theorem open_look (h : DataW.Trod enc Tryz.prog W base sp hd 36 v d p) : ∃ (key : List S82) (at_ : Int) (A5 : Option Addr) (c5 : Nat), v = .agg #[.slice A5 key.length c5, .int .i64 at_] ∧ key.length ≤ c5 ∧ k82.C W A5 key.length key ∧ key.length ≤ maxLen := by
  obtain ⟨m, hm⟩ := h
  obtain ⟨m', rfl, hl, hf⟩ := rd_struct Tryz.underlying36 ⟨_, hm⟩
  rw [co36] at hl
  obtain ⟨a, b, hab⟩ := list2 hl
  have h0 := hf 0 { name := "Key", type := 34, offset := 0, embedded := false, tag := "", pkgPath := "", byteOffset := 0 } rfl
  have h1 := hf 1 { name := "At", type := 3, offset := 1, embedded := false, tag := "", pkgPath := "", byteOffset := 24 } rfl
  rw [hab] at h0 h1
  simp only [co34, co3, List.drop_zero, List.drop_succ_cons, List.take_succ_cons, List.take_zero] at h0 h1
  obtain ⟨A, l, c', e0, hlc, hC, hlm, hok⟩ := rd_slice (d := k82) (ok := VIn) Tryz.underlying34 co82 (fun m' _ cs' h' => rd_82 h') h0
  obtain ⟨x, e1, i1⟩ := rd_int h1
  injection e0 with e0
  injection e1 with e1
  subst e0 e1
  exact ⟨l, x, A, c', agg_of hab (by simp), hlc, hC, hlm⟩
end
end Go.Proofs.YtiamihkfphmohaaGreatDoor.PA
