import Derived.Lib.Hide
import Derived.WalkLawsBesides
import Derived.WalkSpells
import Derived.IntWalk
import Derived.Shelf.SlSortCmp.WholeK
import Derived.Ground.SlsfProg
import Derived.Shelf.SlSortCmp.NoneTotal
import Derived.Test.YtiamihkfphmohaaGreatDoorShelf
import Derived.Test.YtiamihkfphmohaaGreatDoorA1
set_option linter.unusedVariables false
set_option linter.unusedSimpArgs false

namespace Go.Proofs.YtiamihkfphmohaaGreatDoor.PA

deriving instance DecidableEq for S50, S152, S115

/-! ### Periods and spans -/
/-- An instant lies in one of some periods. -/
def sc (l : List S50) (t : Int) : Bool := l.any (fun p => pc p t)
theorem pc_iff {p : S50} {t : Int} : pc p t = true ↔ (0 ≤ p.f0 ∧ p.f0 < p.f1 ∧ p.f1 ≤ 1099511627776) ∧ p.f0 ≤ t ∧ t < p.f1 := by simp [pc, pv]
theorem sc_iff {l : List S50} {t : Int} : sc l t = true ↔ ∃ p ∈ l, pc p t = true := by simp [sc]
theorem sc_nil (t : Int) : sc [] t = false := rfl
theorem sc_cons (p : S50) (l : List S50) (t : Int) : sc (p :: l) t = (pc p t || sc l t) := rfl
theorem sc_append (a b : List S50) (t : Int) : sc (a ++ b) t = (sc a t || sc b t) := by simp [sc]
theorem sc_dom {l : List S50} {t : Int} (h : sc l t = true) : 0 ≤ t ∧ t < 1099511627776 := by
  obtain ⟨p, _, hp⟩ := sc_iff.1 h
  have := pc_iff.1 hp
  omega

/-- A span: valid periods, in order, with gaps between them. -/
def SpanOK (l : List S50) : Prop := (∀ p ∈ l, pv p = true) ∧ l.Pairwise (fun p q => p.f1 < q.f0)
theorem SpanOK.nil : SpanOK [] := ⟨by simp, List.Pairwise.nil⟩
theorem SpanOK.tail {p : S50} {l : List S50} (h : SpanOK (p :: l)) : SpanOK l := ⟨fun q hq => h.1 q (List.mem_cons_of_mem _ hq), (List.pairwise_cons.1 h.2).2⟩
theorem SpanOK.gap {p : S50} {l : List S50} (h : SpanOK (p :: l)) {t : Int} (ht : sc l t = true) : p.f1 < t := by
  obtain ⟨q, hq, hqt⟩ := sc_iff.1 ht
  have := (List.pairwise_cons.1 h.2).1 q hq
  have := pc_iff.1 hqt
  omega
theorem SpanOK.head {p : S50} {l : List S50} (h : SpanOK (p :: l)) : 0 ≤ p.f0 ∧ p.f0 < p.f1 ∧ p.f1 ≤ 1099511627776 := pv_iff.1 (h.1 p List.mem_cons_self)

/-- Spans of the same instants are one. -/
theorem span_unique : ∀ {a b : List S50}, SpanOK a → SpanOK b → (∀ t, sc a t = sc b t) → a = b
  | [], [], _, _, _ => rfl
  | [], q :: b, _, hb, h => by
    have hq := hb.head
    have := h q.f0
    rw [sc_nil, sc_cons, pc_iff.2 ⟨hq, by omega, by omega⟩] at this
    simp at this
  | p :: a, [], ha, _, h => by
    have hp := ha.head
    have := h p.f0
    rw [sc_nil, sc_cons, pc_iff.2 ⟨hp, by omega, by omega⟩] at this
    simp at this
  | p :: a, q :: b, ha, hb, h => by
    have hp := ha.head
    have hq := hb.head
    have mem : ∀ {p : S50} {l : List S50} {t : Int}, SpanOK (p :: l) → sc (p :: l) t = true → p.f0 ≤ t := by
      intro p l t hs ht
      rw [sc_cons, Bool.or_eq_true] at ht
      rcases ht with ht | ht
      · exact (pc_iff.1 ht).2.1
      · have := hs.gap ht
        have := hs.head
        omega
    have h1 : sc (q :: b) p.f0 = true := by rw [← h, sc_cons, pc_iff.2 ⟨hp, by omega, by omega⟩]; rfl
    have h2 : sc (p :: a) q.f0 = true := by rw [h, sc_cons, pc_iff.2 ⟨hq, by omega, by omega⟩]; rfl
    have e0 : p.f0 = q.f0 := by have := mem hb h1; have := mem ha h2; omega
    have hend : ∀ {p q : S50} {a b : List S50}, SpanOK (p :: a) → SpanOK (q :: b) → p.f0 = q.f0 → (∀ t, sc (p :: a) t = sc (q :: b) t) → ¬ p.f1 < q.f1 := by
      intro p q a b ha hb e h hlt
      have hp := ha.head
      have hq := hb.head
      have h3 : sc (p :: a) p.f1 = true := by rw [h, sc_cons, pc_iff.2 ⟨hq, by omega, by omega⟩]; rfl
      rw [sc_cons, Bool.or_eq_true] at h3
      rcases h3 with h3 | h3
      · have := pc_iff.1 h3; omega
      · have := ha.gap h3; omega
    have e1 : p.f1 = q.f1 := by
      have := hend ha hb e0 h
      have := hend hb ha e0.symm (fun t => (h t).symm)
      omega
    have e : p = q := by cases p; cases q; simp_all
    subst e
    have ht : ∀ t, sc a t = sc b t := by
      intro t
      have hh := h t
      rw [sc_cons, sc_cons] at hh
      by_cases hlt : p.f1 < t
      · have : pc p t = false := by
          rw [Bool.eq_false_iff]; intro hc; have := pc_iff.1 hc; omega
        simpa [this] using hh
      · have ha' : sc a t = false := by rw [Bool.eq_false_iff]; intro hc; exact hlt (ha.gap hc)
        have hb' : sc b t = false := by rw [Bool.eq_false_iff]; intro hc; exact hlt (hb.gap hc)
        rw [ha', hb']
    rw [span_unique ha.tail hb.tail ht]

/-! ### Step functions -/
/-- The value at t of steps that are ascending (0 before the first). -/
def sv : List S152 → Int → Int
  | [], _ => 0
  | s :: l, t => if t < s.f0 then 0 else match l with
    | [] => s.f1
    | s' :: _ => if t < s'.f0 then s.f1 else sv l t
/-- From x on: ascending, below Forever, neighbors differ. -/
def StepsFrom : Int → List S152 → Prop
  | _, [] => False
  | x, [s] => s.f0 = x ∧ x < 1099511627776
  | x, s :: s' :: l => s.f0 = x ∧ x < s'.f0 ∧ s.f1 ≠ s'.f1 ∧ StepsFrom s'.f0 (s' :: l)
def StepsOK (l : List S152) : Prop := StepsFrom 0 l
theorem StepsFrom.lt : ∀ {x : Int} {l : List S152}, StepsFrom x l → x < 1099511627776
  | _, [s], h => h.2
  | _, s :: s' :: l, h => by have := StepsFrom.lt h.2.2.2; have := h.2.1; omega
theorem StepsFrom.head {x : Int} {s : S152} {l : List S152} (h : StepsFrom x (s :: l)) : s.f0 = x := by
  cases l with
  | nil => exact h.1
  | cons s' l => exact h.1
theorem sv_head {x : Int} {s : S152} {l : List S152} (h : StepsFrom x (s :: l)) : sv (s :: l) x = s.f1 := by
  cases l with
  | nil => simp [sv, h.1]
  | cons s' l => simp [sv, h.1, h.2.1]
theorem sv_tail {x : Int} {s s' : S152} {l : List S152} (h : StepsFrom x (s :: s' :: l)) {t : Int} (ht : s'.f0 ≤ t) : sv (s :: s' :: l) t = sv (s' :: l) t := by
  have h1 := h.1
  have h2 := h.2.1
  rw [sv, if_neg (by omega)]
  exact if_neg (by omega)
theorem sv_first {x : Int} {s s' : S152} {l : List S152} (h : StepsFrom x (s :: s' :: l)) {t : Int} (hx : x ≤ t) (ht : t < s'.f0) : sv (s :: s' :: l) t = s.f1 := by
  have h1 := h.1
  rw [sv, if_neg (by omega)]
  exact if_pos (by omega)
theorem steps_unique : ∀ {x : Int} {a b : List S152}, StepsFrom x a → StepsFrom x b → (∀ t, x ≤ t → t < 1099511627776 → sv a t = sv b t) → a = b
  | _, [], _, h, _, _ => h.elim
  | _, _ :: _, [], _, h, _ => h.elim
  | x, s :: l, r :: m, ha, hb, h => by
    have e1 : s.f1 = r.f1 := by
      have := h x (Int.le_refl _) ha.lt
      rwa [sv_head ha, sv_head hb] at this
    have e : s = r := by
      have h1 := ha.head
      have h2 := hb.head
      cases s; cases r; simp_all
    subst e
    cases l with
    | nil =>
      cases m with
      | nil => rfl
      | cons r' m =>
        have := h r'.f0 (by have := hb.2.1; omega) (StepsFrom.lt hb.2.2.2)
        rw [sv_tail hb (Int.le_refl _), sv_head hb.2.2.2] at this
        rw [sv, if_neg (by have := hb.2.1; have := hb.1; omega)] at this
        exact absurd this hb.2.2.1
    | cons s' l =>
      cases m with
      | nil =>
        have := h s'.f0 (by have := ha.2.1; omega) (StepsFrom.lt ha.2.2.2)
        rw [sv_tail ha (Int.le_refl _), sv_head ha.2.2.2] at this
        rw [sv, if_neg (by have := ha.2.1; have := ha.1; omega)] at this
        exact absurd this.symm ha.2.2.1
      | cons r' m =>
        have e0 : s'.f0 = r'.f0 := by
          rcases Int.lt_trichotomy s'.f0 r'.f0 with hl | hl | hl
          · have := h s'.f0 (by have := ha.2.1; omega) (StepsFrom.lt ha.2.2.2)
            rw [sv_tail ha (Int.le_refl _), sv_head ha.2.2.2, sv_first hb (by have := ha.2.1; omega) hl] at this
            exact absurd this.symm ha.2.2.1
          · exact hl
          · have := h r'.f0 (by have := hb.2.1; omega) (StepsFrom.lt hb.2.2.2)
            rw [sv_tail hb (Int.le_refl _), sv_head hb.2.2.2, sv_first ha (by have := hb.2.1; omega) hl] at this
            exact absurd this hb.2.2.1
        have ht := steps_unique (a := s' :: l) (b := r' :: m) ha.2.2.2 (e0 ▸ hb.2.2.2) (fun t h1 h2 => by
          have := h t (by have := ha.2.1; omega) h2
          rwa [sv_tail ha h1, sv_tail hb (by omega)] at this)
        rw [ht]


/-! ### Ascending lists of numbers -/
def Asc (l : List Int) : Prop := l.Pairwise (· < ·)
/-- Insertion into an ascending list, unless it is there. -/
def ins : List Int → Int → List Int
  | [], n => [n]
  | x :: l, n => if x < n then x :: ins l n else if n < x then n :: x :: l else x :: l
theorem mem_ins {l : List Int} {n x : Int} : x ∈ ins l n ↔ x = n ∨ x ∈ l := by
  induction l with
  | nil => simp [ins]
  | cons y l ih =>
    unfold ins
    split
    · simp only [List.mem_cons, ih]
      constructor <;> rintro (h | h | h) <;> simp [h]
    · split
      · simp
      · have : y = n := by omega
        subst this
        simp
theorem ins_asc {l : List Int} (h : Asc l) (n : Int) : Asc (ins l n) := by
  induction l with
  | nil => exact List.pairwise_singleton ..
  | cons y l ih =>
    have h' := List.pairwise_cons.1 h
    unfold ins
    split
    · refine List.pairwise_cons.2 ⟨fun z hz => ?_, ih h'.2⟩
      rcases mem_ins.1 hz with rfl | hz
      · assumption
      · exact h'.1 z hz
    · split
      · refine List.pairwise_cons.2 ⟨fun z hz => ?_, h⟩
        rcases List.mem_cons.1 hz with rfl | hz
        · assumption
        · have := h'.1 z hz; omega
      · exact h
/-- Ascending lists of the same numbers are one. -/
theorem asc_unique : ∀ {a b : List Int}, Asc a → Asc b → (∀ x, x ∈ a ↔ x ∈ b) → a = b
  | [], [], _, _, _ => rfl
  | [], q :: b, _, _, h => by have := (h q).2 List.mem_cons_self; simp at this
  | p :: a, [], _, _, h => by have := (h p).1 List.mem_cons_self; simp at this
  | p :: a, q :: b, ha, hb, h => by
    have ha' := List.pairwise_cons.1 ha
    have hb' := List.pairwise_cons.1 hb
    have e : p = q := by
      have h1 := (h p).1 List.mem_cons_self
      have h2 := (h q).2 List.mem_cons_self
      rcases List.mem_cons.1 h1 with h1 | h1
      · exact h1
      · rcases List.mem_cons.1 h2 with h2 | h2
        · exact h2.symm
        · have := ha'.1 _ h2; have := hb'.1 _ h1; omega
    subst e
    rw [asc_unique ha'.2 hb'.2 fun x => ?_]
    constructor
    · intro hx
      have := (h x).1 (List.mem_cons_of_mem _ hx)
      rcases List.mem_cons.1 this with rfl | h3
      · have := ha'.1 _ hx; omega
      · exact h3
    · intro hx
      have := (h x).2 (List.mem_cons_of_mem _ hx)
      rcases List.mem_cons.1 this with rfl | h3
      · have := hb'.1 _ hx; omega
      · exact h3

/-! ### A period behind a span -/
/-- p behind the last period, or joined to it. -/
def jn (l : List S50) (p : S50) : List S50 := match l.getLast? with
  | none => l ++ [p]
  | some q => if q.f1 = p.f0 then l.dropLast ++ [⟨q.f0, p.f1⟩] else l ++ [p]
theorem jn_nil (p : S50) : jn [] p = [p] := rfl
theorem jn_snoc (l : List S50) (q p : S50) : jn (l ++ [q]) p = if q.f1 = p.f0 then l ++ [⟨q.f0, p.f1⟩] else l ++ [q] ++ [p] := by simp [jn]
theorem snoc_cases {α : Type} (l : List α) : l = [] ∨ ∃ m x, l = m ++ [x] := by
  rcases List.eq_nil_or_concat l with h | ⟨m, x, h⟩
  · exact .inl h
  · exact .inr ⟨m, x, by simpa using h⟩
/-- What is in a span that ends at x or before. -/
def SpanTo (x : Int) (l : List S50) : Prop := SpanOK l ∧ ∀ q ∈ l, q.f1 ≤ x
theorem SpanTo.nil (x : Int) : SpanTo x [] := ⟨SpanOK.nil, by simp⟩
theorem SpanTo.up {x y : Int} {l : List S50} (h : SpanTo x l) (hxy : x ≤ y) : SpanTo y l := ⟨h.1, fun q hq => Int.le_trans (h.2 q hq) hxy⟩
theorem SpanTo.lt {x : Int} {l : List S50} (h : SpanTo x l) {t : Int} (ht : sc l t = true) : t < x := by
  obtain ⟨q, hq, hqt⟩ := sc_iff.1 ht
  have := h.2 q hq
  have := pc_iff.1 hqt
  omega
theorem spanOK_snoc {l : List S50} {p : S50} : SpanOK (l ++ [p]) ↔ SpanOK l ∧ pv p = true ∧ ∀ q ∈ l, q.f1 < p.f0 := by
  unfold SpanOK
  rw [List.pairwise_append]
  constructor
  · rintro ⟨h1, h2, _, h3⟩
    exact ⟨⟨fun q hq => h1 q (by simp [hq]), h2⟩, h1 p (by simp), fun q hq => h3 q hq p (by simp)⟩
  · rintro ⟨⟨h1, h2⟩, h3, h4⟩
    refine ⟨fun q hq => ?_, h2, List.pairwise_singleton .., fun q hq r hr => ?_⟩
    · rcases List.mem_append.1 hq with hq | hq
      · exact h1 q hq
      · rw [List.mem_singleton.1 hq]; exact h3
    · rw [List.mem_singleton.1 hr]; exact h4 q hq
theorem jn_ok {l : List S50} {p : S50} (h : SpanTo p.f0 l) (hp : pv p = true) : SpanTo p.f1 (jn l p) ∧ ∀ t, sc (jn l p) t = (sc l t || pc p t) := by
  have hpv := pv_iff.1 hp
  rcases snoc_cases l with rfl | ⟨m, q, rfl⟩
  · rw [jn_nil]
    refine ⟨⟨⟨by simpa using hp, List.pairwise_singleton ..⟩, by simp⟩, fun t => by simp [sc]⟩
  · have hq := h.2 q (by simp)
    obtain ⟨hm, hqv, hgap⟩ := spanOK_snoc.1 h.1
    have hqv' := pv_iff.1 hqv
    rw [jn_snoc]
    split
    · rename_i e
      have hv : pv ⟨q.f0, p.f1⟩ = true := pv_iff.2 (by simp only; omega)
      refine ⟨⟨spanOK_snoc.2 ⟨hm, hv, hgap⟩, fun r hr => ?_⟩, fun t => ?_⟩
      · rcases List.mem_append.1 hr with hr | hr
        · have := hgap r hr; omega
        · rw [List.mem_singleton.1 hr]; exact Int.le_refl _
      · rw [sc_append, sc_append, Bool.or_assoc]
        congr 1
        simp only [sc, List.any_cons, List.any_nil, Bool.or_false]
        rw [Bool.eq_iff_iff, Bool.or_eq_true, pc_iff, pc_iff, pc_iff]
        simp only
        omega
    · refine ⟨⟨spanOK_snoc.2 ⟨h.1, hp, fun r hr => ?_⟩, fun r hr => ?_⟩, fun t => ?_⟩
      · rcases List.mem_append.1 hr with hr | hr
        · have := hgap r hr; omega
        · rw [List.mem_singleton.1 hr]; omega
      · rcases List.mem_append.1 hr with hr | hr
        · have := h.2 r hr; omega
        · rw [List.mem_singleton.1 hr]; exact Int.le_refl _
      · rw [sc_append]
        simp [sc]
/-- Runs: the periods between neighboring points at whose first instant g holds, joined. -/
def runs (g : Int → Bool) : Int → List Int → List S50 → List S50
  | _, [], out => out
  | x, y :: ys, out => runs g y ys (if g x then jn out ⟨x, y⟩ else out)
/-- g does not change between neighboring points. -/
def Const {β : Type} (g : Int → β) : Int → List Int → Prop
  | _, [] => True
  | x, y :: ys => (∀ t, x ≤ t → t < y → g t = g x) ∧ Const g y ys
/-- The last point. -/
def endO : Int → List Int → Int
  | x, [] => x
  | _, y :: ys => endO y ys
theorem endO_le : ∀ {x : Int} {ys : List Int}, Asc (x :: ys) → ∀ z ∈ x :: ys, z ≤ endO x ys
  | x, [], _, z, hz => by rw [List.mem_singleton.1 hz]; exact Int.le_refl _
  | x, y :: ys, ha, z, hz => by
    have h1 := endO_le (List.pairwise_cons.1 ha).2
    rcases List.mem_cons.1 hz with rfl | hz
    · have := (List.pairwise_cons.1 ha).1 y List.mem_cons_self
      have := h1 y List.mem_cons_self
      show z ≤ endO y ys
      omega
    · exact h1 z hz
theorem endO_mem : ∀ (x : Int) (ys : List Int), endO x ys ∈ x :: ys
  | x, [] => List.mem_cons_self
  | _, y :: ys => List.mem_cons_of_mem _ (endO_mem y ys)
theorem runs_ok {g : Int → Bool} : ∀ {x : Int} {ys : List Int} {out : List S50}, 0 ≤ x → Asc (x :: ys) → (∀ y ∈ ys, y ≤ 1099511627776) → Const g x ys → SpanTo x out →
    SpanTo (endO x ys) (runs g x ys out) ∧ ∀ t, sc (runs g x ys out) t = (sc out t || (decide (x ≤ t ∧ t < endO x ys) && g t))
  | x, [], out, _, _, _, _, h => by
    refine ⟨h, fun t => ?_⟩
    rw [runs, endO, decide_eq_false (by omega : ¬ (x ≤ t ∧ t < x))]
    simp
  | x, y :: ys, out, hx, ha, hy, hc, h => by
    have hxy : x < y := (List.pairwise_cons.1 ha).1 y List.mem_cons_self
    have ha' : Asc (y :: ys) := (List.pairwise_cons.1 ha).2
    have hyF := hy y List.mem_cons_self
    have hlast : y ≤ endO y ys := endO_le ha' y List.mem_cons_self
    have hp : pv ⟨x, y⟩ = true := pv_iff.2 ⟨hx, hxy, hyF⟩
    have key : SpanTo y (if g x then jn out ⟨x, y⟩ else out) ∧ ∀ t, sc (if g x then jn out ⟨x, y⟩ else out) t = (sc out t || (decide (x ≤ t ∧ t < y) && g t)) := by
      by_cases hg : g x = true
      · rw [if_pos hg]
        have hj := jn_ok (p := ⟨x, y⟩) h hp
        refine ⟨hj.1, fun t => ?_⟩
        rw [hj.2 t]
        congr 1
        rw [Bool.eq_iff_iff, pc_iff, Bool.and_eq_true, decide_eq_true_eq]
        simp only
        constructor
        · rintro ⟨_, h1, h2⟩
          exact ⟨⟨h1, h2⟩, by rw [hc.1 t h1 h2]; exact hg⟩
        · rintro ⟨⟨h1, h2⟩, _⟩
          exact ⟨⟨hx, hxy, hyF⟩, h1, h2⟩
      · rw [if_neg hg]
        refine ⟨h.up (by omega), fun t => ?_⟩
        by_cases h1 : x ≤ t ∧ t < y
        · have : g t = false := by rw [hc.1 t h1.1 h1.2]; simpa using hg
          simp [this]
        · simp [h1]
    have ih := runs_ok (g := g) (x := y) (ys := ys) (by omega) ha' (fun z hz => hy z (List.mem_cons_of_mem _ hz)) hc.2 key.1
    refine ⟨ih.1, fun t => ?_⟩
    rw [runs, ih.2 t, key.2 t, Bool.or_assoc, endO]
    congr 1
    rw [Bool.eq_iff_iff, Bool.or_eq_true, Bool.and_eq_true, Bool.and_eq_true, Bool.and_eq_true, decide_eq_true_eq, decide_eq_true_eq, decide_eq_true_eq]
    constructor
    · rintro (⟨h1, h2⟩ | ⟨h1, h2⟩)
      · exact ⟨by omega, h2⟩
      · exact ⟨by omega, h2⟩
    · rintro ⟨h1, h2⟩
      by_cases h3 : t < y
      · exact .inl ⟨by omega, h2⟩
      · exact .inr ⟨by omega, h2⟩
/-- The span of the instants of [0, Forever) at which g holds, if g changes at the points alone. -/
theorem runs_span {g : Int → Bool} {ys : List Int} (ha : Asc (0 :: ys)) (hy : ∀ y ∈ ys, y ≤ 1099511627776) (hF : 1099511627776 ∈ ys) (hc : Const g 0 ys) :
    SpanOK (runs g 0 ys []) ∧ ∀ t, sc (runs g 0 ys []) t = (decide (0 ≤ t ∧ t < 1099511627776) && g t) := by
  have hl : endO 0 ys = 1099511627776 := by
    have h1 : endO 0 ys ≤ 1099511627776 := by
      rcases List.mem_cons.1 (endO_mem 0 ys) with e | e
      · omega
      · exact hy _ e
    have := endO_le ha _ (List.mem_cons_of_mem _ hF)
    omega
  have h := runs_ok (out := []) (by omega) ha hy hc (SpanTo.nil 0)
  rw [hl] at h
  exact ⟨h.1.1, fun t => by rw [h.2 t, sc_nil, Bool.false_or]⟩


/-! ### Steps put behind others -/
theorem sf_snoc : ∀ {x : Int} {l : List S152} {q p : S152}, StepsFrom x (l ++ [q]) → q.f0 < p.f0 → p.f0 < 1099511627776 → q.f1 ≠ p.f1 → StepsFrom x (l ++ [q] ++ [p])
  | x, [], q, p, h, h1, h2, h3 => ⟨h.1, by have := h.1; omega, h3, rfl, h2⟩
  | x, [s], q, p, h, h1, h2, h3 => ⟨h.1, h.2.1, h.2.2.1, sf_snoc (l := []) h.2.2.2 h1 h2 h3⟩
  | x, s :: s' :: l, q, p, h, h1, h2, h3 => ⟨h.1, h.2.1, h.2.2.1, sf_snoc (l := s' :: l) h.2.2.2 h1 h2 h3⟩
theorem sf_le : ∀ {x : Int} {l : List S152} {q : S152}, StepsFrom x (l ++ [q]) → x ≤ q.f0
  | x, [], q, h => by have := h.1; omega
  | x, [s], q, h => by have := h.2.1; exact Int.le_of_lt h.2.1
  | x, s :: s' :: l, q, h => by have := sf_le (l := s' :: l) h.2.2.2; have := h.2.1; omega
theorem sv_one (s : S152) (t : Int) : sv [s] t = if t < s.f0 then 0 else s.f1 := rfl
theorem sv_two (s s' : S152) (l : List S152) (t : Int) : sv (s :: s' :: l) t = if t < s.f0 then 0 else if t < s'.f0 then s.f1 else sv (s' :: l) t := rfl
theorem sv_snoc : ∀ {x : Int} {l : List S152} {q p : S152}, StepsFrom x (l ++ [q]) → q.f0 < p.f0 → ∀ t, x ≤ t → sv (l ++ [q] ++ [p]) t = if t < p.f0 then sv (l ++ [q]) t else p.f1
  | x, [], q, p, h, h1, t, ht => by
    have h0 := h.1
    show sv [q, p] t = if t < p.f0 then sv [q] t else p.f1
    simp only [sv_two, sv_one, if_neg (show ¬ t < q.f0 from by omega)]
    by_cases h5 : t < p.f0
    · rw [if_pos h5, if_pos h5]
    · rw [if_neg h5, if_neg h5, if_neg h5]
  | x, [s], q, p, h, h1, t, ht => by
    have h0 := h.1
    have hq := h.2.1
    have ih := sv_snoc (l := []) (p := p) h.2.2.2 h1 t
    simp only [List.nil_append, List.cons_append] at ih ⊢
    simp only [sv_two s, if_neg (show ¬ t < s.f0 from by omega)]
    by_cases h5 : t < q.f0
    · rw [if_pos h5, if_pos h5, if_pos (by omega)]
    · rw [if_neg h5, if_neg h5]
      exact ih (by omega)
  | x, s :: s' :: l, q, p, h, h1, t, ht => by
    have h0 := h.1
    have hq := h.2.1
    have hle := sf_le (l := s' :: l) h.2.2.2
    have ih := sv_snoc (l := s' :: l) (p := p) h.2.2.2 h1 t
    simp only [List.cons_append] at ih ⊢
    simp only [sv_two s, if_neg (show ¬ t < s.f0 from by omega)]
    by_cases h5 : t < s'.f0
    · rw [if_pos h5, if_pos h5, if_pos (by omega)]
    · rw [if_neg h5, if_neg h5]
      exact ih (by omega)
theorem putS_snoc (l : List S152) (q : S152) (x n : Int) : putS (l ++ [q]) x n = if q.f1 = n then l ++ [q] else l ++ [q] ++ [⟨x, n⟩] := by simp [putS]
/-- Steps that tell g on [0, x): below x, and (behind the first) the last one's value holds till x. -/
def StepsTo (g : Int → Int) (x : Int) (l : List S152) : Prop := ∃ m q, l = m ++ [q] ∧ StepsFrom 0 l ∧ q.f0 < x ∧ ∀ t, 0 ≤ t → t < x → sv l t = g t
theorem sv_last : ∀ {x : Int} {l : List S152} {q : S152}, StepsFrom x (l ++ [q]) → ∀ t, q.f0 ≤ t → sv (l ++ [q]) t = q.f1
  | x, [], q, h, t, ht => by
    show sv [q] t = _
    rw [sv_one, if_neg (by omega)]
  | x, [s], q, h, t, ht => by
    have h0 := h.1
    have hq := h.2.1
    have ih := sv_last (l := []) h.2.2.2 t ht
    simp only [List.nil_append, List.cons_append] at ih ⊢
    rw [sv_two, if_neg (by omega), if_neg (by omega)]
    exact ih
  | x, s :: s' :: l, q, h, t, ht => by
    have h0 := h.1
    have hq := h.2.1
    have hle := sf_le (l := s' :: l) h.2.2.2
    have ih := sv_last (l := s' :: l) h.2.2.2 t ht
    simp only [List.cons_append] at ih ⊢
    rw [sv_two, if_neg (by omega), if_neg (by omega)]
    exact ih
theorem putS_first {g : Int → Int} {y : Int} (hy : 0 < y) (hc : ∀ t, 0 ≤ t → t < y → g t = g 0) : StepsTo g y (putS [] 0 (g 0)) :=
  ⟨[], ⟨0, g 0⟩, rfl, ⟨rfl, by decide⟩, hy, fun t h1 h2 => by
    rw [putS_nil, sv, if_neg (by simp only; omega)]
    exact (hc t h1 h2).symm⟩
theorem putS_ok {g : Int → Int} {x y : Int} {l : List S152} (h : StepsTo g x l) (hxy : x < y) (hx : x < 1099511627776) (hc : ∀ t, x ≤ t → t < y → g t = g x) : StepsTo g y (putS l x (g x)) := by
  obtain ⟨m, q, rfl, hs, hq, hv⟩ := h
  have hle := sf_le hs
  rw [putS_snoc]
  split
  · rename_i e
    refine ⟨m, q, rfl, hs, by omega, fun t h1 h2 => ?_⟩
    by_cases h3 : t < x
    · exact hv t h1 h3
    · rw [sv_last hs t (by omega), e, hc t (by omega) h2]
  · rename_i e
    refine ⟨m ++ [q], ⟨x, g x⟩, rfl, sf_snoc hs hq hx e, hxy, fun t h1 h2 => ?_⟩
    rw [sv_snoc (p := ⟨x, g x⟩) hs hq t h1]
    simp only
    split
    · exact hv t h1 (by assumption)
    · rw [hc t (by omega) h2]
/-- The steps of g, which changes at the points alone. -/
def srun (g : Int → Int) : List Int → List S152 → List S152
  | [], out => out
  | x :: xs, out => srun g xs (putS out x (g x))
theorem srun_ok {g : Int → Int} : ∀ {x : Int} {ys : List Int} {out : List S152}, 0 ≤ x → Asc (x :: ys) → (∀ y ∈ x :: ys, y < 1099511627776) → Const g x (ys ++ [1099511627776]) → (x = 0 ∧ out = [] ∨ StepsTo g x out) →
    StepsTo g 1099511627776 (srun g (x :: ys) out)
  | x, [], out, hx, ha, hy, hc, h => by
    have hxF := hy x List.mem_cons_self
    rcases h with ⟨rfl, rfl⟩ | h
    · exact putS_first (by omega) hc.1
    · exact putS_ok h hxF hxF hc.1
  | x, y :: ys, out, hx, ha, hy, hc, h => by
    have hxF := hy x List.mem_cons_self
    have hxy : x < y := (List.pairwise_cons.1 ha).1 y List.mem_cons_self
    have ha' := (List.pairwise_cons.1 ha).2
    have key : StepsTo g y (putS out x (g x)) := by
      rcases h with ⟨rfl, rfl⟩ | h
      · exact putS_first hxy hc.1
      · exact putS_ok h hxy hxF hc.1
    exact srun_ok (g := g) (x := y) (by omega) ha' (fun z hz => hy z (List.mem_cons_of_mem _ hz)) hc.2 (.inr key)
theorem srun_steps {g : Int → Int} {ys : List Int} (ha : Asc (0 :: ys)) (hy : ∀ y ∈ ys, y < 1099511627776) (hc : Const g 0 (ys ++ [1099511627776])) :
    StepsOK (srun g (0 :: ys) []) ∧ ∀ t, 0 ≤ t → t < 1099511627776 → sv (srun g (0 :: ys) []) t = g t := by
  obtain ⟨m, q, _, hs, _, hv⟩ := srun_ok (out := []) (by omega) ha (fun y hy' => by
    rcases List.mem_cons.1 hy' with rfl | h
    · decide
    · exact hy y h) hc (.inl ⟨rfl, rfl⟩)
  exact ⟨hs, hv⟩


/-! ### The instants at which steps are at least n -/
def nextF : List S152 → Int
  | [] => 1099511627776
  | s :: _ => s.f0
def atl (n : Int) : List S152 → List S50 → List S50
  | [], out => out
  | s :: l, out => atl n l (if n ≤ s.f1 then jn out ⟨s.f0, nextF l⟩ else out)
theorem sf_nextF {x : Int} {s : S152} {l : List S152} (h : StepsFrom x (s :: l)) : x < nextF l ∧ nextF l ≤ 1099511627776 := by
  cases l with
  | nil => exact ⟨h.2, Int.le_refl _⟩
  | cons s' l => exact ⟨h.2.1, Int.le_of_lt (StepsFrom.lt h.2.2.2)⟩
theorem sf_rest {x : Int} {s : S152} {l : List S152} (h : StepsFrom x (s :: l)) : l = [] ∨ StepsFrom (nextF l) l := by
  cases l with
  | nil => exact .inl rfl
  | cons s' l => exact .inr h.2.2.2
theorem sv_cell {x : Int} {s : S152} {l : List S152} (h : StepsFrom x (s :: l)) {t : Int} (h1 : x ≤ t) (h2 : t < nextF l) : sv (s :: l) t = s.f1 := by
  cases l with
  | nil => rw [sv_one, if_neg (by have := h.1; omega)]
  | cons s' l => exact sv_first h h1 h2
theorem sv_rest {x : Int} {s : S152} {l : List S152} (h : StepsFrom x (s :: l)) {t : Int} (h2 : nextF l ≤ t) (h3 : t < 1099511627776) : sv (s :: l) t = sv l t := by
  cases l with
  | nil => exact absurd h2 (by simp only [nextF]; omega)
  | cons s' l => exact sv_tail h h2
theorem atl_ok {n : Int} : ∀ {x : Int} {l : List S152} {out : List S50}, 0 ≤ x → StepsFrom x l → SpanTo x out →
    SpanOK (atl n l out) ∧ ∀ t, sc (atl n l out) t = (sc out t || (decide (x ≤ t ∧ t < 1099511627776) && decide (n ≤ sv l t)))
  | x, [], out, _, h, _ => h.elim
  | x, s :: l, out, hx, h, ho => by
    have h0 := h.head
    have hn := sf_nextF h
    have hp : pv ⟨s.f0, nextF l⟩ = true := pv_iff.2 (by simp only; omega)
    have key : SpanTo (nextF l) (if n ≤ s.f1 then jn out ⟨s.f0, nextF l⟩ else out) ∧ ∀ t, sc (if n ≤ s.f1 then jn out ⟨s.f0, nextF l⟩ else out) t = (sc out t || (decide (x ≤ t ∧ t < nextF l) && decide (n ≤ sv (s :: l) t))) := by
      by_cases hg : n ≤ s.f1
      · rw [if_pos hg]
        have hj := jn_ok (p := ⟨s.f0, nextF l⟩) (by rw [h0]; exact ho) hp
        refine ⟨hj.1, fun t => ?_⟩
        rw [hj.2 t]
        congr 1
        rw [Bool.eq_iff_iff, pc_iff, Bool.and_eq_true, decide_eq_true_eq, decide_eq_true_eq]
        simp only
        constructor
        · rintro ⟨_, h1, h2⟩
          exact ⟨⟨by omega, h2⟩, by rw [sv_cell h (by omega) h2]; exact hg⟩
        · rintro ⟨⟨h1, h2⟩, _⟩
          exact ⟨by omega, by omega, h2⟩
      · rw [if_neg hg]
        refine ⟨ho.up (by omega), fun t => ?_⟩
        by_cases h1 : x ≤ t ∧ t < nextF l
        · rw [sv_cell h h1.1 h1.2, decide_eq_false hg]
          simp
        · rw [decide_eq_false h1]
          simp
    rcases sf_rest h with rfl | hr
    · refine ⟨key.1.1, fun t => ?_⟩
      rw [atl, atl]
      exact key.2 t
    · have ih := atl_ok (n := n) (x := nextF l) (l := l) (by omega) hr key.1
      refine ⟨ih.1, fun t => ?_⟩
      rw [atl, ih.2 t, key.2 t, Bool.or_assoc]
      congr 1
      rw [Bool.eq_iff_iff, Bool.or_eq_true, Bool.and_eq_true, Bool.and_eq_true, Bool.and_eq_true, decide_eq_true_eq, decide_eq_true_eq, decide_eq_true_eq, decide_eq_true_eq, decide_eq_true_eq]
      constructor
      · rintro (⟨h1, h2⟩ | ⟨h1, h2⟩)
        · exact ⟨by omega, h2⟩
        · exact ⟨by omega, by rw [sv_rest h h1.1 h1.2]; exact h2⟩
      · rintro ⟨h1, h2⟩
        by_cases h3 : t < nextF l
        · exact .inl ⟨by omega, h2⟩
        · exact .inr ⟨by omega, by rw [← sv_rest h (by omega) h1.2]; exact h2⟩
theorem atl_span {n : Int} {l : List S152} (h : StepsOK l) : SpanOK (atl n l []) ∧ ∀ t, sc (atl n l []) t = (decide (0 ≤ t ∧ t < 1099511627776) && decide (n ≤ sv l t)) := by
  have := atl_ok (n := n) (Int.le_refl 0) h (SpanTo.nil 0)
  exact ⟨this.1, fun t => by rw [this.2 t, sc_nil, Bool.false_or]⟩

/-! ### One level of a stack: what is closed, and where the open one began -/
/-- What a level has closed when the steps are over. -/
def levI (n : Int) : List S152 → List S50 → Option Int → List S50
  | [], c, o => c ++ (o.toList.map fun st => ⟨st, 1099511627776⟩)
  | s :: l, c, o => if n ≤ s.f1 then levI n l c (some (o.getD s.f0)) else levI n l (c ++ (o.toList.map fun st => ⟨st, s.f0⟩)) none
theorem levI_atl {n : Int} : ∀ {x : Int} {l : List S152} {c : List S50} {o : Option Int}, StepsFrom x l → (∀ q ∈ c, q.f1 < x) →
    levI n l c o = atl n l (c ++ (o.toList.map fun st => ⟨st, x⟩))
  | x, [], _, _, h, _ => h.elim
  | x, s :: l, c, o, h, hc => by
    have h0 := h.head
    have hn := sf_nextF h
    have hjn : n ≤ s.f1 → jn (c ++ (o.toList.map fun st => ⟨st, x⟩)) ⟨s.f0, nextF l⟩ = c ++ ((some (o.getD s.f0)).toList.map fun st => ⟨st, nextF l⟩) := by
      intro _
      cases o with
      | none =>
        simp only [Option.toList_none, List.map_nil, List.append_nil, Option.getD_none, Option.toList_some, List.map_cons]
        rcases snoc_cases c with rfl | ⟨m, q, rfl⟩
        · rfl
        · rw [jn_snoc, if_neg (by have := hc q (by simp); simp only; omega)]
      | some st =>
        simp only [Option.toList_some, List.map_cons, List.map_nil, Option.getD_some]
        rw [jn_snoc, if_pos (by simp only; omega)]
    rw [levI, atl]
    by_cases hg : n ≤ s.f1
    · rw [if_pos hg, if_pos hg, hjn hg]
      rcases sf_rest h with rfl | hr
      · rw [levI, atl, nextF]
      · exact levI_atl hr (fun q hq => by have := hc q hq; omega)
    · rw [if_neg hg, if_neg hg, h0]
      rcases sf_rest h with rfl | hr
      · rw [levI, atl]; simp
      · rw [levI_atl hr (fun q hq => by
          rcases List.mem_append.1 hq with hq | hq
          · have := hc q hq; omega
          · obtain ⟨st, _, rfl⟩ := List.mem_map.1 hq
            exact hn.1)]
        simp


/-! ### The stack of levels -/
/-- The greatest number of levels. -/
def topN : Nat := 1048576
theorem topN_is : topN = 1048576 := rfl
theorem flatMap_congr' {α β : Type} {l : List α} {f g : α → List β} (h : ∀ a ∈ l, f a = g a) : l.flatMap f = l.flatMap g := by
  induction l with
  | nil => rfl
  | cons a l ih => rw [List.flatMap_cons, List.flatMap_cons, h a List.mem_cons_self, ih fun b hb => h b (List.mem_cons_of_mem _ hb)]
def clampN (n : Int) : Nat := (min (max n 0) 1048576).toNat
theorem clampN_le (n : Int) : clampN n ≤ topN := by unfold clampN; rw [topN_is]; omega
def setL (st : List Int) (out : List S50) (x : Int) (k : Nat) : List Int × List S50 :=
  if st.length < k then (st ++ List.replicate (k - st.length) x, out)
  else (st.take k, out ++ ((st.drop k).reverse.map fun f => ⟨f, x⟩))
def stackGo : List S152 → List Int → List S50 → List S50
  | [], st, out => (setL st out 1099511627776 0).2
  | s :: l, st, out => stackGo l (setL st out s.f0 (clampN s.f1)).1 (setL st out s.f0 (clampN s.f1)).2
theorem perm_flatMap_append {α β : Type} (l : List α) (f g : α → List β) : (l.flatMap f ++ l.flatMap g).Perm (l.flatMap fun a => f a ++ g a) := by
  induction l with
  | nil => exact List.Perm.refl _
  | cons a l ih =>
    simp only [List.flatMap_cons]
    have h1 : (f a ++ l.flatMap f ++ (g a ++ l.flatMap g)).Perm (f a ++ g a ++ (l.flatMap f ++ l.flatMap g)) := by
      rw [List.append_assoc, List.append_assoc]
      refine List.Perm.append_left _ ?_
      rw [← List.append_assoc, ← List.append_assoc]
      exact List.Perm.append_right _ List.perm_append_comm
    exact h1.trans (List.Perm.append_left _ ih)
/-- What the levels from k on close at x. -/
theorem flatMap_drop (st : List Int) (x : Int) (k : Nat) : ∀ M, st.length ≤ M → ((List.range M).flatMap fun i : Nat => if k ≤ i then ((st[i]?).toList.map fun f => (⟨f, x⟩ : S50)) else []) = (st.drop k).map fun f => ⟨f, x⟩ := by
  induction st generalizing k with
  | nil =>
    intro M _
    rw [List.drop_nil, List.map_nil, List.flatMap_eq_nil_iff]
    intro i _
    split <;> rfl
  | cons a st ih =>
    intro M hM
    obtain ⟨M, rfl⟩ : ∃ m, M = m + 1 := ⟨M - 1, by simp at hM; omega⟩
    rw [List.range_succ_eq_map, List.flatMap_cons, List.flatMap_map]
    cases k with
    | zero =>
      have := ih 0 M (by simp at hM; omega)
      simp only [Nat.zero_le, if_true, List.drop_zero] at this ⊢
      simp only [List.getElem?_cons_zero, Option.toList_some, List.map_cons, List.map_nil, List.getElem?_cons_succ]
      rw [this]
      rfl
    | succ k =>
      have := ih k M (by simp at hM; omega)
      simp only [List.drop_succ_cons]
      rw [← this, if_neg (by omega), List.nil_append]
      congr 1
      funext i
      simp only [List.getElem?_cons_succ, Nat.succ_eq_add_one, Nat.add_le_add_iff_right]
theorem clampN_iff {n : Int} {i : Nat} (hi : i < topN) : ((i : Int) + 1 ≤ n) ↔ i < clampN n := by unfold clampN; rw [topN_is] at hi; omega
theorem setL_len {st : List Int} {out : List S50} {x : Int} {k : Nat} (hk : k ≤ topN) : (setL st out x k).1.length ≤ topN := by
  unfold setL
  split
  · simp; omega
  · simp; omega
theorem setL_ok {st : List Int} {out : List S50} {x : Int} {k : Nat} {c : Nat → List S50} (hk : k ≤ topN) (hst : st.length ≤ topN) (ho : out.Perm ((List.range topN).flatMap c)) :
    (setL st out x k).2.Perm ((List.range topN).flatMap fun i : Nat => if i < k then c i else c i ++ ((st[i]?).toList.map fun f => ⟨f, x⟩)) ∧
    ∀ i, (setL st out x k).1[i]? = if i < k then some ((st[i]?).getD x) else none := by
  unfold setL
  split
  · rename_i h
    refine ⟨?_, fun i => ?_⟩
    · refine ho.trans (List.Perm.of_eq ?_)
      congr 1
      funext i
      split
      · rfl
      · rw [List.getElem?_eq_none (by omega)]
        simp
    · simp only
      by_cases h1 : i < st.length
      · rw [List.getElem?_append_left h1, if_pos (by omega), List.getElem?_eq_getElem h1]
        rfl
      · rw [List.getElem?_append_right (by omega), List.getElem?_replicate, List.getElem?_eq_none (by omega : st.length ≤ i)]
        by_cases h2 : i < k
        · rw [if_pos (by omega), if_pos h2]; rfl
        · rw [if_neg (by omega), if_neg h2]
  · rename_i h
    refine ⟨?_, fun i => ?_⟩
    · have h1 := perm_flatMap_append (List.range topN) c (fun i => if k ≤ i then ((st[i]?).toList.map fun f => (⟨f, x⟩ : S50)) else [])
      rw [flatMap_drop st x k topN hst] at h1
      have h2 : ((st.drop k).reverse.map fun f => (⟨f, x⟩ : S50)).Perm ((st.drop k).map fun f => ⟨f, x⟩) := (List.reverse_perm _).map _
      refine (List.Perm.append ho h2).trans (h1.trans (List.Perm.of_eq ?_))
      congr 1
      funext i
      by_cases h3 : i < k
      · rw [if_pos h3, if_neg (by omega), List.append_nil]
      · rw [if_neg h3, if_pos (by omega)]
    · simp only
      by_cases h1 : i < k
      · rw [List.getElem?_take, if_pos h1, if_pos h1, List.getElem?_eq_getElem (by omega)]
        rfl
      · rw [List.getElem?_take, if_neg h1, if_neg h1]
theorem stackGo_ok : ∀ {l : List S152} {st : List Int} {out : List S50} {c : Nat → List S50}, st.length ≤ topN → out.Perm ((List.range topN).flatMap c) →
    (stackGo l st out).Perm ((List.range topN).flatMap fun i : Nat => levI ((i : Int) + 1) l (c i) st[i]?)
  | [], st, out, c, hst, ho => by
    have h := (setL_ok (x := 1099511627776) (k := 0) (Nat.zero_le _) hst ho).1
    rw [stackGo]
    refine h.trans (List.Perm.of_eq ?_)
    congr 1
  | s :: l, st, out, c, hst, ho => by
    have h := setL_ok (x := s.f0) (k := clampN s.f1) (clampN_le _) hst ho
    rw [stackGo]
    refine (stackGo_ok (setL_len (clampN_le _)) h.1).trans (List.Perm.of_eq ?_)
    refine flatMap_congr' fun i hi => ?_
    have hi' : i < topN := List.mem_range.1 hi
    rw [levI, h.2 i]
    by_cases h3 : i < clampN s.f1
    · rw [if_pos h3, if_pos h3, if_pos ((clampN_iff hi').2 h3)]
    · rw [if_neg h3, if_neg h3, if_neg (fun hh => h3 ((clampN_iff hi').1 hh))]
/-- What the stack hands out is, in some order, the levels. -/
theorem stack_levels {l : List S152} (h : StepsOK l) : (stackGo l [] []).Perm ((List.range topN).flatMap fun i : Nat => atl ((i : Int) + 1) l []) := by
  have h1 := stackGo_ok (l := l) (st := []) (out := []) (c := fun _ => []) (by simp) (List.Perm.of_eq (by
    symm
    rw [List.flatMap_eq_nil_iff]
    intros; rfl))
  refine h1.trans (List.Perm.of_eq ?_)
  refine flatMap_congr' fun i hi => ?_
  rw [List.getElem?_nil, levI_atl h (by simp)]
  rfl

/-! ### Periods in order -/
def lePer (p q : S50) : Prop := p.f0 < q.f0 ∨ p.f0 = q.f0 ∧ p.f1 ≤ q.f1
instance : DecidableRel lePer := fun p q => inferInstanceAs (Decidable (p.f0 < q.f0 ∨ p.f0 = q.f0 ∧ p.f1 ≤ q.f1))
theorem lePer_anti {p q : S50} (h1 : lePer p q) (h2 : lePer q p) : p = q := by
  unfold lePer at *
  cases p; cases q
  simp only at *
  congr 1 <;> omega
theorem lePer_trans {p q r : S50} (h1 : lePer p q) (h2 : lePer q r) : lePer p r := by unfold lePer at *; omega
theorem lePer_total (p q : S50) : lePer p q ∨ lePer q p := by unfold lePer; omega
def SortedPer (l : List S50) : Prop := l.Pairwise lePer
theorem sortedPer_unique {a b : List S50} (ha : SortedPer a) (hb : SortedPer b) (h : a.Perm b) : a = b :=
  List.Perm.eq_of_pairwise (fun _ _ _ _ h1 h2 => lePer_anti h1 h2) ha hb h
/-- A period put behind all that are no greater. -/
def plc : List S50 → S50 → List S50
  | [], p => [p]
  | q :: l, p => if lePer q p then q :: plc l p else p :: q :: l
theorem plc_perm : ∀ (l : List S50) (p : S50), (plc l p).Perm (p :: l)
  | [], p => List.Perm.refl _
  | q :: l, p => by
    rw [plc]
    split
    · exact ((plc_perm l p).cons q).trans (List.Perm.swap p q l)
    · exact List.Perm.refl _
theorem plc_sorted : ∀ {l : List S50} (p : S50), SortedPer l → SortedPer (plc l p)
  | [], p, _ => List.pairwise_singleton ..
  | q :: l, p, h => by
    have h' := List.pairwise_cons.1 h
    rw [plc]
    split
    · rename_i hq
      refine List.pairwise_cons.2 ⟨fun r hr => ?_, plc_sorted p h'.2⟩
      rcases List.mem_cons.1 ((plc_perm l p).mem_iff.1 hr) with rfl | hr
      · exact hq
      · exact h'.1 r hr
    · rename_i hq
      have hpq : lePer p q := (lePer_total p q).resolve_right hq
      refine List.pairwise_cons.2 ⟨fun r hr => ?_, h⟩
      rcases List.mem_cons.1 hr with rfl | hr
      · exact hpq
      · exact lePer_trans hpq (h'.1 r hr)
end Go.Proofs.YtiamihkfphmohaaGreatDoor.PA

namespace Go.Proofs.YtiamihkfphmohaaGreatDoor.PA
open Go.RowKit Go.Proofs.YtiamihkfphmohaaGreatDoorW.PrintWords Go.Proofs.YtiamihkfphmohaaGreatDoorW.PrintLast Go.Proofs.YtiamihkfphmohaaGreatDoorW.PrintMore

theorem jn_last {l : List S50} (h : 0 < l.length) (p : S50) : jn l p = if (rd_T50 l (l.length - 1 : Int)).f1 = p.f0 then l.set (l.length - 1 : Int).toNat ⟨(rd_T50 l (l.length - 1 : Int)).f0, p.f1⟩ else l ++ [p] := by
  rcases snoc_cases l with rfl | ⟨m, q, rfl⟩
  · simp at h
  · have e1 : (((m ++ [q]).length : Int) - 1).toNat = m.length := by simp
    have e2 : rd_T50 (m ++ [q]) ((m ++ [q]).length - 1 : Int) = q := by rw [rd_T50, e1]; simp
    rw [jn_snoc, e2, e1]
    split
    · simp
    · rfl
theorem R_form {α : Type} {d : Kd α} {e : Nat} {w : World} {base : Nat} {ok : Nat → Prop} {v : Value} {xs : List α} (h : d.R e w base ok v xs) (hp : 0 < xs.length) : ∃ g cap, v = .slice (some ⟨g, 0, none⟩) xs.length cap ∧ base ≤ g ∧ g < w.heap.size ∧ ∃ cells, w.heap[g]? = some (.cells cells e (0, 0)) := Kd.N_form (Kd.R_N h) hp
def SpansOf (w : World) (r : List S50) (e : Ending) (w' : World) : Prop := ∃ v, e = .returned v ∧ Kd.R k50 50 w' w.heap.size (fun _ => True) v r ∧ Below w.heap.size w w'
theorem atl_step {m : Int} {l : List S152} {k : Nat} {o : List S50} (h : k < l.length) : atl m (l.drop k) o = atl m (l.drop (k + 1)) (if m ≤ (rd_T152 l k).f1 then jn o ⟨(rd_T152 l k).f0, nextF (l.drop (k + 1))⟩ else o) := by
  rw [List.drop_eq_getElem_cons h, atl]
  simp [rd_T152, h]
theorem nextF_in {l : List S152} {k : Nat} (h : k < l.length) : nextF (l.drop k) = (rd_T152 l k).f0 := by
  rw [List.drop_eq_getElem_cons h, nextF]
  simp [rd_T152, h]
theorem nextF_out {l : List S152} {k : Nat} (h : l.length ≤ k) : nextF (l.drop k) = 1099511627776 := by
  rw [List.drop_eq_nil_of_le h, nextF]
set_option maxHeartbeats 2000000 in
set_option maxRecDepth 100000 in
theorem c170 (A : Option Addr) (n c : Nat) (l : List S152) (m : Int) (w : World) (hr : k152.C w A n l) (hl : l.length ≤ 1000000) :
    Calls Tryz.prog 86 #[.slice A n c, .int .i64 m] w (SpansOf w (atl m l [])) := by
  obtain rfl := hr.1
  have HR := Aside0.mk hr
  clear hr
  go_enter Tryz.func86, Tryz.ntmps86
  go_wp2
  go_loopw [5, 12] (fun v i wr => ∃ (k : Nat) (o : List S50), i = .int .i64 k ∧ k ≤ l.length ∧ o.length ≤ k ∧ Aside0 (atl m (l.drop k) o = atl m l []) ∧ Aside0 (Kd.R k50 50 wr w.heap.size (fun _ => True) v o) ∧ Aside0 (Below w.heap.size w wr)) (fun _ i _ => l.length - (intOf i).toNat)
  case atStart => exact ⟨0, [], rfl, Nat.zero_le _, Nat.le_refl _, ⟨rfl⟩, ⟨Kd.R_nil _ _ _ _ _⟩, ⟨Below.refl _ _⟩⟩
  case round =>
    obtain ⟨k, o, rfl, hk', ho', HC, HO, HB⟩ := hrel
    by_cases h1 : k < l.length
    · have hst := Lib.hid (atl_step (m := m) (o := o) h1)
      obtain ⟨xa, rfl, x0, x1⟩ := at_T152 HR.out k (by omega) (by omega)
      rw [Int.toNat_natCast] at x0 x1
      replace x0 := pw_cell_below HB.out x0
      replace x1 := pw_cell_below HB.out x1
      have xb := World.block_lt_of_cell? _ _ x0
      have hk1 : (0 : Int) ≤ k := by omega
      have hk2 : (k : Int) < l.length := by omega
      have hto : ∃ tt : Int, nextF (l.drop (k + 1)) = tt := ⟨_, rfl⟩
      obtain ⟨tt, hto⟩ := hto
      go_upto_if 21 with fail
      go_cut [8] (fun u wc => u = .int .i64 tt ∧ wc = wr.alloc (.cells #[.int .i64 (rd_T152 l k).f0, .int .i64 (rd_T152 l k).f1] 152))
      case first =>
        by_cases h2 : k + 1 < l.length
        · have hn := nextF_in h2
          obtain ⟨ya, e, y0, y1⟩ := at_T152 HR.out (k + 1 : Int) (by omega) (by omega)
          cases e
          rw [show ((k : Int) + 1).toNat = k + 1 from by omega] at y0 y1
          replace y0 := pw_cell_below HB.out y0
          have yb := World.block_lt_of_cell? _ _ y0
          have hk3 : (0 : Int) ≤ (k : Int) + 1 := by omega
          have hk4 : (k : Int) + 1 < l.length := by omega
          go_wp2_with fail
          go_meet
          case rel => exact ⟨by rw [← hto, hn]; rfl, rfl⟩
        · have hn := nextF_out (l := l) (k := k + 1) (by omega)
          have hk3 : ¬ (k : Int) + 1 < l.length := by omega
          go_wp2_with fail
          go_meet
          case rel => exact ⟨by rw [← hto, hn], rfl⟩
      case rest =>
        obtain ⟨rfl, rfl⟩ := hcut
        have HTO := Lib.hid hto
        clear hto
        have z0 : (wr.alloc (.cells #[.int .i64 (rd_T152 l k).f0, .int .i64 (rd_T152 l k).f1] 152)).cell? ⟨wr.heap.size, 0, none⟩ = some (.int .i64 (rd_T152 l k).f0) := by simp
        have z1 : (wr.alloc (.cells #[.int .i64 (rd_T152 l k).f0, .int .i64 (rd_T152 l k).f1] 152)).cell? ⟨wr.heap.size, 1, none⟩ = some (.int .i64 (rd_T152 l k).f1) := by simp
        have hb0 : wr.heap.size < (wr.alloc (.cells #[.int .i64 (rd_T152 l k).f0, .int .i64 (rd_T152 l k).f1] 152)).heap.size := by simp
        have HO1 := Aside0.mk (Kd.R_alloc HO.out (.cells #[.int .i64 (rd_T152 l k).f0, .int .i64 (rd_T152 l k).f1] 152))
        have HB1 := Aside0.mk (below_alloc HB.out (.cells #[.int .i64 (rd_T152 l k).f0, .int .i64 (rd_T152 l k).f1] 152))
        clear x0 x1 xb HO HB
        generalize wr.alloc (.cells #[.int .i64 (rd_T152 l k).f0, .int .i64 (rd_T152 l k).f1] 152) = W at *
        generalize wr.heap.size = gb at *
        by_cases hm : m ≤ (rd_T152 l k).f1
        · have hm' : ¬ (rd_T152 l k).f1 < m := by omega
          by_cases h0 : 0 < o.length
          · have hj := Lib.hid (jn_last h0 ⟨(rd_T152 l k).f0, tt⟩)
            obtain ⟨g, cap, rfl, hg1, hg2, cells, hg3⟩ := R_form HO1.out h0
            obtain ⟨ad, e, y0, y1⟩ := at_T50 (Kd.R_reads' HO1.out).2.2 (o.length - 1 : Int) (by omega) (by omega)
            cases e
            rw [show ((o.length : Int) - 1).toNat = o.length - 1 from by omega] at y0 y1
            simp only [Go.Proofs.YtiamihkfphmohaaGreatDoorW.PrintWords.add_plain] at y0 y1
            have e1 : (0 : Int) ≤ (o.length : Int) - 1 := by omega
            have e2 : (o.length : Int) - 1 < o.length := by omega
            have e3 : (0 : Int) < o.length := by omega
            go_wp2
            have hw1 : IntKind.i64.wrap ((o.length : Int) - 1) = (o.length : Int) - 1 := IntWalk.i64_in _ (by omega)
            have hw2 : ((o.length : Int) - 1).toNat = o.length - 1 := by omega
            go_quiet (fail)
            clear hw1 hw2
            have HO2 := Aside0.mk (Kd.R_drewN HO1.out nq)
            have HB2 := Aside0.mk (pw_below_drewN HB1.out nq)
            have w0 : (W.drewN nq).cell? ⟨gb, 0, none⟩ = some (.int .i64 (rd_T152 l k).f0) := z0
            clear HO1 HB1 y0 y1 z0 z1 hg3
            obtain ⟨ce, hcl, hM, hcc, hfr⟩ := Kd.R_elem HO2.out z50 (o.length - 1 : Int) (by omega) (by omega)
            obtain rfl := k50_openM hM
            have HP := Aside0.mk (Kd.R_seg HO2.out (o.length - 1 : Int) (by omega) (by omega) (seg := [.int .i64 tt]) (j := 1) hcl hcc (show 2 ≤ 2 from by decide) (x' := ⟨(rd_T50 o (o.length - 1 : Int)).f0, tt⟩) (k50_mkM _ _ _ ⟨(rd_T50 o (o.length - 1 : Int)).f0, tt⟩) (fun _ hk => hk))
            have hf1 : (W.drewN nq).frozen? ⟨g, (o.length - 1) * 2 + 1, none⟩ = false := by
              have := hfr 1
              rw [show ((o.length : Int) - 1).toNat = o.length - 1 from by omega] at this
              exact this
            have h9 : ((o.length : Int) - 1).toNat * k50.sz + 1 = (o.length - 1) * 2 + 1 := by rw [show ((o.length : Int) - 1).toNat = o.length - 1 from by omega]; rfl
            have y1 : (W.drewN nq).cell? ⟨g, (o.length - 1) * 2 + 1, none⟩ = some (.int .i64 (rd_T50 o (o.length - 1 : Int)).f1) := by
              have := hcc 1 _ rfl
              rw [h9] at this
              exact this
            clear hcl hM hcc hfr
            have h9 := Lib.hid h9
            generalize W.drewN nq = W2 at *
            go_wp2_with (at_builtin; refine Kd.R_append k50 (w0 := w) w.heap.size rfl (.tmp 53) (.tmp 58) 41 50 (.agg #[(.int .i64 0), (.int .i64 0)]) 16 rfl Tryz.underlying41 info50 rfl (by decide) (by omega) (.slice (some ⟨g, 0, none⟩) o.length cap) o ⟨(rd_T152 l k).f0, tt⟩ [.int .i64 (rd_T152 l k).f0, .int .i64 tt] (fun _ => True) (fun _ => False) rfl rfl (k50_mkM _ _ _ ⟨(rd_T152 l k).f0, tt⟩) (fun _ hk => hk.elim) (fun _ _ => trivial) ?aO ?aB ?aS ?aL ?_; (case aO => exact HO2.out); (case aB => exact HB2.out); (case aS => exact (below_size HB2.out)); (case aL => exact (by omega)); intro v1 w1 ho hb hg hat; skip)
            · have he : ((rd_T50 o (o.length - 1 : Int)).f1 == (rd_T152 l k).f0) = true := by assumption
              refine ⟨⟨k + 1, _, by go_num, h1, ?_, ⟨by rw [← HC.out, hst.out, if_pos hm, HTO.out, hj.out, if_pos (by simpa using he)]⟩, ⟨?_⟩, ⟨below_set HB2.out hg1⟩⟩, by simp [intOf]; omega⟩
              · simp; omega
              · have := HP.out.1
                rw [h9.out] at this
                exact this
            · have he : ((rd_T50 o (o.length - 1 : Int)).f1 == (rd_T152 l k).f0) = false := by assumption
              exact ⟨⟨k + 1, _, by go_num, h1, by simp; omega, ⟨by rw [← HC.out, hst.out, if_pos hm, HTO.out, hj.out, if_neg (by simpa using he)]⟩, ⟨ho⟩, ⟨hb⟩⟩, by simp [intOf]; omega⟩
          · obtain rfl : o = [] := List.eq_nil_of_length_eq_zero (by omega)
            obtain ⟨A5, c5, rfl⟩ := Kd.R_slice HO1.out
            go_wp2
            go_quiet (fail)
            have HO2 := Aside0.mk (Kd.R_drewN HO1.out nq)
            have HB2 := Aside0.mk (pw_below_drewN HB1.out nq)
            have w0 : (W.drewN nq).cell? ⟨gb, 0, none⟩ = some (.int .i64 (rd_T152 l k).f0) := z0
            clear HO1 HB1 z0 z1
            generalize W.drewN nq = W2 at *
            go_wp2_with (at_builtin; refine Kd.R_append k50 (w0 := w) w.heap.size rfl (.tmp 53) (.tmp 58) 41 50 (.agg #[(.int .i64 0), (.int .i64 0)]) 16 rfl Tryz.underlying41 info50 rfl (by decide) (by omega) (.slice A5 ([] : List S50).length c5) ([] : List S50) ⟨(rd_T152 l k).f0, tt⟩ [.int .i64 (rd_T152 l k).f0, .int .i64 tt] (fun _ => True) (fun _ => False) rfl rfl (k50_mkM _ _ _ ⟨(rd_T152 l k).f0, tt⟩) (fun _ hk => hk.elim) (fun _ _ => trivial) ?aO ?aB ?aS ?aL ?_; (case aO => exact HO2.out); (case aB => exact HB2.out); (case aS => exact (below_size HB2.out)); (case aL => exact (by simp)); intro v1 w1 ho hb hg hat; skip)
            exact ⟨⟨k + 1, _, by go_num, h1, by simp, ⟨by rw [← HC.out, hst.out, if_pos hm, HTO.out]; rfl⟩, ⟨ho⟩, ⟨hb⟩⟩, by simp [intOf]; omega⟩
        · have hm' : (rd_T152 l k).f1 < m := by omega
          go_wp2
          exact ⟨⟨k + 1, _, by go_num, h1, by omega, ⟨by rw [← HC.out, hst.out, if_neg hm]⟩, HO1, HB1⟩, by simp [intOf]; omega⟩
    · go_wp2
      go_ret
      exact ⟨_, rfl, by rw [← HC.out, List.drop_eq_nil_of_le (by omega), atl]; exact HO.out, HB.out⟩
end Go.Proofs.YtiamihkfphmohaaGreatDoor.PA

namespace Go.Proofs.YtiamihkfphmohaaGreatDoor.PA
open Go.RowKit Go.Proofs.YtiamihkfphmohaaGreatDoorW.PrintWords Go.Proofs.YtiamihkfphmohaaGreatDoorW.PrintLast Go.Proofs.YtiamihkfphmohaaGreatDoorW.PrintMore

theorem info163 : (Tryz.prog.info? 163).map (fun i => (i.zero, i.size, i.bytes)) = some (some (.agg #[(.int .i64 0), (.int .i64 0), (.int .i64 0)]), 3, 24) := by kernel_rfl
theorem info174 : (Tryz.prog.info? 174).map (fun i => (i.zero, i.size, i.bytes)) = some (some (.agg #[(.int .i64 0), (.int .i64 0)]), 2, 16) := by kernel_rfl
/-! #### struct type 163 -/
structure S163 where
  f0 : Int
  f1 : Int
  f2 : Int
def z163 : S163 := ⟨(0 : Int), (0 : Int), (0 : Int)⟩
def k163 : Kd S163 := Kd.iso (Kd.pair (Kd.int .i64) (Kd.pair (Kd.int .i64) (Kd.int .i64))) (fun x : S163 => (x.f0, x.f1, x.f2))
theorem k163_heap : Kd.Heap k163 := Kd.heap_iso _ (Kd.heap_pair (Kd.heap_int .i64) (Kd.heap_pair (Kd.heap_int .i64) (Kd.heap_int .i64)))
theorem k163_open {w : World} {x : S163} {cs : List Value} (h : k163.K w x cs) : cs = [.int .i64 x.f0, .int .i64 x.f1, .int .i64 x.f2] := by
  obtain ⟨_, _, rfl, rfl, ⟨_, _, rfl, rfl, rfl⟩⟩ := h
  exact rfl
theorem k163_openM {w : World} {base : Nat} {ok : Nat → Prop} {x : S163} {cs : List Value} (h : k163.M w base ok x cs) : cs = [.int .i64 x.f0, .int .i64 x.f1, .int .i64 x.f2] := by
  obtain ⟨_, _, rfl, rfl, ⟨_, _, rfl, rfl, rfl⟩⟩ := h
  exact rfl
theorem k163_mk (w : World) (x : S163)  : k163.K w x [.int .i64 x.f0, .int .i64 x.f1, .int .i64 x.f2] := ⟨[.int .i64 x.f0], [.int .i64 x.f1, .int .i64 x.f2], rfl, rfl, ⟨[.int .i64 x.f1], [.int .i64 x.f2], rfl, rfl, rfl⟩⟩
theorem k163_mkM (w : World) (base : Nat) (ok : Nat → Prop) (x : S163)  : k163.M w base ok x [.int .i64 x.f0, .int .i64 x.f1, .int .i64 x.f2] := ⟨[.int .i64 x.f0], [.int .i64 x.f1, .int .i64 x.f2], rfl, rfl, ⟨[.int .i64 x.f1], [.int .i64 x.f2], rfl, rfl, rfl⟩⟩
theorem k163_mkF (W : World) (ok : Nat → Prop) (x : S163) : Kd.FK k163 W ok x [.int .i64 x.f0, .int .i64 x.f1, .int .i64 x.f2] := fun W2 _ => k163_mk W2 x
def rd_T163 (xs : List S163) (i : Int) : S163 := xs.getD i.toNat z163
theorem at_T163 {w : World} {A : Option Addr} {n : Nat} {xs : List S163} (h : Kd.C k163 w A n xs) (i : Int) (h0 : 0 ≤ i) (h1 : i < n) : ∃ ad , A = some ad ∧ w.cell? (ad.add (i.toNat * 3)) = some (.int .i64 (rd_T163 xs i).f0) ∧ w.cell? ⟨(ad.add (i.toNat * 3)).block, (ad.add (i.toNat * 3)).off + 1, none⟩ = some (.int .i64 (rd_T163 xs i).f1) ∧ w.cell? ⟨(ad.add (i.toNat * 3)).block, (ad.add (i.toNat * 3)).off + 2, none⟩ = some (.int .i64 (rd_T163 xs i).f2) := by
  obtain ⟨ad, c, e, _, hK, hc0⟩ := Kd.C_get h z163 i h0 h1
  have hc : ∀ j u, c[j]? = some u → w.cell? (ad.add (i.toNat * 3 + j)) = some u := hc0
  obtain rfl := k163_open hK
  exact ⟨ad, e, hc 0 _ rfl, by rw [← add_field _ _ 1 (by omega)]; exact hc 1 _ rfl, by rw [← add_field _ _ 2 (by omega)]; exact hc 2 _ rfl⟩

/-! #### struct type 174 -/
structure S174 where
  f0 : Int
  f1 : Int
def z174 : S174 := ⟨(0 : Int), (0 : Int)⟩
def k174 : Kd S174 := Kd.iso (Kd.pair (Kd.int .i64) (Kd.int .i64)) (fun x : S174 => (x.f0, x.f1))
theorem k174_heap : Kd.Heap k174 := Kd.heap_iso _ (Kd.heap_pair (Kd.heap_int .i64) (Kd.heap_int .i64))
theorem k174_open {w : World} {x : S174} {cs : List Value} (h : k174.K w x cs) : cs = [.int .i64 x.f0, .int .i64 x.f1] := by
  obtain ⟨_, _, rfl, rfl, rfl⟩ := h
  exact rfl
theorem k174_openM {w : World} {base : Nat} {ok : Nat → Prop} {x : S174} {cs : List Value} (h : k174.M w base ok x cs) : cs = [.int .i64 x.f0, .int .i64 x.f1] := by
  obtain ⟨_, _, rfl, rfl, rfl⟩ := h
  exact rfl
theorem k174_mk (w : World) (x : S174)  : k174.K w x [.int .i64 x.f0, .int .i64 x.f1] := ⟨[.int .i64 x.f0], [.int .i64 x.f1], rfl, rfl, rfl⟩
theorem k174_mkM (w : World) (base : Nat) (ok : Nat → Prop) (x : S174)  : k174.M w base ok x [.int .i64 x.f0, .int .i64 x.f1] := ⟨[.int .i64 x.f0], [.int .i64 x.f1], rfl, rfl, rfl⟩
theorem k174_mkF (W : World) (ok : Nat → Prop) (x : S174) : Kd.FK k174 W ok x [.int .i64 x.f0, .int .i64 x.f1] := fun W2 _ => k174_mk W2 x
def rd_T174 (xs : List S174) (i : Int) : S174 := xs.getD i.toNat z174
theorem at_T174 {w : World} {A : Option Addr} {n : Nat} {xs : List S174} (h : Kd.C k174 w A n xs) (i : Int) (h0 : 0 ≤ i) (h1 : i < n) : ∃ ad , A = some ad ∧ w.cell? (ad.add (i.toNat * 2)) = some (.int .i64 (rd_T174 xs i).f0) ∧ w.cell? ⟨(ad.add (i.toNat * 2)).block, (ad.add (i.toNat * 2)).off + 1, none⟩ = some (.int .i64 (rd_T174 xs i).f1) := by
  obtain ⟨ad, c, e, _, hK, hc0⟩ := Kd.C_get h z174 i h0 h1
  have hc : ∀ j u, c[j]? = some u → w.cell? (ad.add (i.toNat * 2 + j)) = some u := hc0
  obtain rfl := k174_open hK
  exact ⟨ad, e, hc 0 _ rfl, by rw [← add_field _ _ 1 (by omega)]; exact hc 1 _ rfl⟩

end Go.Proofs.YtiamihkfphmohaaGreatDoor.PA

namespace Go.Proofs.YtiamihkfphmohaaGreatDoor.PA
open Go.RowKit Go.Proofs.YtiamihkfphmohaaGreatDoorW.PrintWords Go.Proofs.YtiamihkfphmohaaGreatDoorW.PrintLast Go.Proofs.YtiamihkfphmohaaGreatDoorW.PrintMore

open Go.Sort Go.Shelf Go.Proofs
/-- What an element's cells are, where it leads nowhere. -/
structure Flat {α : Type} (d : Kd α) (enc : α → List Value) : Prop where
  len : ∀ x, (enc x).length = d.sz
  one : ∀ x, ∀ v ∈ enc x, v.oneCell' = true
  iff_ : ∀ {w : World} {base : Nat} {ok : Nat → Prop} {x : α} {cs : List Value}, d.M w base ok x cs ↔ cs = enc x
  pos : 0 < d.sz
section
variable {α β : Type} {d : Kd α} {enc : α → List Value} {e : Nat} {w : World} {base : Nat} {v : Value}
theorem putCells_take (F c : Array Value) (h : F.size ≤ c.size) : (putCells id 0 F c).toList.take F.size = F.toList := by
  apply List.ext_getElem?
  intro i
  rw [List.getElem?_take]
  by_cases hi : i < F.size
  · rw [if_pos hi, Array.getElem?_toList, Array.getElem?_toList]
    simp only [putCells, Array.getElem?_mapIdx]
    rw [Array.getElem?_eq_getElem (by omega), Array.getElem?_eq_getElem hi]
    simp [hi]
  · rw [if_neg hi, Array.getElem?_toList, Array.getElem?_eq_none (by omega)]
theorem sortW_heap [Inhabited β] (encb : β → List Value) (k g n : Nat) (D : Array β) (os : Array Obj) {cur : Array Value} {t : TypeId} (hb : w.heap[g]? = some (.cells cur t (0, 0))) :
    (sortWorldK encb k w g 0 n D os).heap[g]? = some (.cells (putCells id 0 (flatK encb k D) cur) t (0, 0)) ∧
    w.grownBy (sortWorldK encb k w g 0 n D os) (some g) := by
  have hlt : g < w.heap.size := (Array.getElem?_eq_some_iff.1 hb).1
  have hsz : (putRowK encb k (Sort.ahead w n) g 0 D).heap.size = w.heap.size := by simp [putRowK, putRow, mapBlock, Sort.ahead]
  refine ⟨?_, ⟨rfl, rfl, rfl, ?_, fun i hi hne => ?_⟩⟩
  · unfold sortWorldK
    rw [heap_grow_old _ _ (by rw [hsz]; exact hlt)]
    simp [putRowK, putRow, mapBlock, Sort.ahead, Array.getElem?_modify, hb, onCells]
  · unfold sortWorldK
    rw [size_grow, hsz]; omega
  · unfold sortWorldK
    rw [heap_grow_old _ _ (by rw [hsz]; exact hi)]
    have hne' : ¬ g = i := fun h => hne (by rw [h])
    simp [putRowK, putRow, mapBlock, Sort.ahead, Array.getElem?_modify, hne']
theorem R_sortable [Inhabited β] (hF : Flat d enc) (val : β → α) {xs : List α} {ys : List β} (hys : ys.map val = xs) (HO : d.R e w base (fun _ => True) v xs) (hne : 0 < xs.length) :
    ∃ g cap, v = .slice (some ⟨g, 0, none⟩) xs.length cap ∧ g < w.heap.size ∧ HoldsK (fun y => enc (val y)) d.sz w g 0 ys.toArray ∧
      ∀ n (D : Array β) os, D.size = ys.length → d.R e (sortWorldK (fun y => enc (val y)) d.sz w g 0 n D os) base (fun _ => True) v (D.toList.map val) ∧ w.grownBy (sortWorldK (fun y => enc (val y)) d.sz w g 0 n D os) (some g) := by
  subst hys
  obtain ⟨_, inner, ho, hr⟩ := HO
  obtain ⟨hil, ho2⟩ := ho
  rcases ho2 with ⟨rfl, h0⟩ | ⟨g, cap, cur, rfl, hg, hh, hnc, hcm, hcs, htk⟩
  · omega
  · have hlt : g < w.heap.size := (Array.getElem?_eq_some_iff.1 hh).1
    simp only [List.length_map] at *
    have hk := hF.pos
    refine ⟨g, cap, rfl, hlt, ?_, fun n D os hD => ?_⟩
    · intro t ht
      rw [size_flatK] at ht
      have ht' : t < ys.length * d.sz := by simpa using ht
      refine ⟨?_, blk_frozen hh _⟩
      rw [Nat.zero_add, blk_cell hh t, get_flatK _ _ _ _ ht]
      have hj : t / d.sz < ys.length := Nat.div_lt_of_lt_mul (by rw [Nat.mul_comm]; exact ht')
      have hm : t % d.sz < d.sz := Nat.mod_lt _ hk
      have hR := hF.iff_.1 (hr.2 (t / d.sz) (val ys[t / d.sz]) (by rw [List.getElem?_map, List.getElem?_eq_getElem hj]; rfl))
      have e1 : cur[t]? = inner[t]? := by
        rw [← htk, List.getElem?_take, if_pos ht', Array.getElem?_toList]
      have e2 : inner[t]? = (enc (val ys[t / d.sz]))[t % d.sz]? := by
        rw [← hR, List.getElem?_take, if_pos hm, List.getElem?_drop]
        congr 1
        rw [Nat.mul_comm]
        exact (Nat.div_add_mod t d.sz).symm
      have hlen := hF.len (val ys[t / d.sz])
      rw [e1, e2, List.getElem?_eq_getElem (by omega)]
      have hyj : ys.toArray[t / d.sz]! = ys[t / d.sz] := by simp [hj]
      rw [hyj]
      simp [List.getElem!_eq_getElem?_getD, List.getElem?_eq_getElem (show t % d.sz < (enc (val ys[t / d.sz])).length by omega)]
    · obtain ⟨hW, hgr⟩ := sortW_heap (fun y => enc (val y)) d.sz g n D os hh
      refine ⟨⟨fun _ _ => trivial, (flatK (fun y => enc (val y)) d.sz D).toList, ⟨?_, .inr ⟨g, cap, _, by simp [hD], hg, hW, by simpa [hD] using hnc, hcm, ?_, ?_⟩⟩, ?_, ?_⟩, hgr⟩
      · simp
      · simp [putCells, hcs]
      · have : (D.toList.map val).length * d.sz = (flatK (fun y => enc (val y)) d.sz D).size := by simp
        rw [this]
        exact putCells_take _ _ (by rw [size_flatK, hcs, hD]; exact Nat.mul_le_mul_right _ hnc)
      · simp
      · intro j p hp
        rw [List.getElem?_map] at hp
        obtain ⟨y, hy, rfl⟩ := Option.map_eq_some_iff.1 hp
        rw [hF.iff_]
        have hjD : j < D.size := by
          have := (List.getElem?_eq_some_iff.1 hy).1
          simpa using this
        have hlen := hF.len (val y)
        apply List.ext_getElem?
        intro i
        rw [List.getElem?_take]
        by_cases hi : i < d.sz
        · rw [if_pos hi, List.getElem?_drop, Array.getElem?_toList]
          have hb : j * d.sz + i < D.size * d.sz := by
            have : (j + 1) * d.sz ≤ D.size * d.sz := Nat.mul_le_mul_right _ hjD
            rw [Nat.succ_mul] at this
            omega
          rw [Array.getElem?_eq_getElem (by rw [size_flatK]; exact hb)]
          have hg2 := get_flatK (fun y => enc (val y)) d.sz D (j * d.sz + i) hb
          rw [getElem!_pos _ _ (by rw [size_flatK]; exact hb)] at hg2
          rw [hg2]
          have e1 : (j * d.sz + i) / d.sz = j := by
            rw [Nat.mul_comm, Nat.mul_add_div hk, Nat.div_eq_of_lt hi, Nat.add_zero]
          have e2 : (j * d.sz + i) % d.sz = i := by
            rw [Nat.mul_comm, Nat.mul_add_mod, Nat.mod_eq_of_lt hi]
          rw [e1, e2]
          have hyD : D[j]! = y := by
            rw [getElem!_pos D j hjD]
            rw [Array.getElem?_toList, Array.getElem?_eq_getElem hjD] at hy
            exact Option.some.inj hy
          rw [hyD, List.getElem?_eq_getElem (by omega)]
          simp [List.getElem!_eq_getElem?_getD, List.getElem?_eq_getElem (show i < (enc (val y)).length by omega)]
        · rw [if_neg hi, List.getElem?_eq_none (by omega)]
end
end Go.Proofs.YtiamihkfphmohaaGreatDoor.PA

namespace Go.Proofs.YtiamihkfphmohaaGreatDoor.PA
open Go.RowKit Go.Proofs.YtiamihkfphmohaaGreatDoorW.PrintWords Go.Proofs.YtiamihkfphmohaaGreatDoorW.PrintLast Go.Proofs.YtiamihkfphmohaaGreatDoorW.PrintMore

open Go.Sort (SWO PermIn SortedIn grow alloc_eq_grow grow_grow)
open Go.Shelf
theorem perm_of {β : Type} [Inhabited β] {ys : List β} {D : Array β} (h : PermIn 0 ys.toArray.size ys.toArray D) : D.toList.Perm ys := by
  obtain ⟨hs, _, hp⟩ := h
  have h1 : (D.extract 0 ys.toArray.size).toList = D.toList := by simp [← hs]
  rw [h1] at hp
  simpa using hp
theorem sorted_of {β : Type} [Inhabited β] {lt : β → β → Bool} {D : Array β} (h : SortedIn lt 0 D.size D) : D.toList.Pairwise (fun a b => lt b a = false) := by
  rw [List.pairwise_iff_getElem]
  intro i j hi hj hij
  have := h i j (Nat.zero_le _) hij (by simpa using hj)
  rw [getElem!_pos D i (by simpa using hi), getElem!_pos D j (by simpa using hj)] at this
  simpa using this
def Sorted (w0 w : World) (base : Nat) {α : Type} (d : Kd α) (e : Nat) (v : Value) (xs : List α) (le : α → α → Prop) (en : Ending) (w' : World) : Prop :=
  en = .returned (.tuple #[]) ∧ ∃ ys, ys.Perm xs ∧ ys.Pairwise le ∧ d.R e w' base (fun _ => True) v ys ∧ Below base w0 w' ∧ w.grownBy w' v.ownBlock

def B262 (x : S163) : Prop := 0 ≤ x.f0 ∧ x.f0 ≤ 1099511627776
def cf262 (x y : {x : S163 // B262 x}) : Int := x.1.f0 - y.1.f0
def en262 (x : S163) : List Value := [.int .i64 x.f0, .int .i64 x.f1, .int .i64 x.f2]
def eb262 (y : {x : S163 // B262 x}) : List Value := en262 y.1
theorem flat262 : Flat k163 en262 where
  len _ := rfl
  one _ v hv := by simp [en262] at hv; rcases hv with rfl | rfl | rfl <;> rfl
  iff_ := ⟨fun h => k163_openM h, fun h => by subst h; exact k163_mkM _ _ _ _⟩
  pos := by decide
instance inh262 : Inhabited {x : S163 // B262 x} := ⟨⟨z163, by simp [B262, z163, z50]⟩⟩
set_option maxHeartbeats 1000000 in
theorem c263 (x y : {x : S163 // B262 x}) (w : World) :
    Calls Tryz.prog 167 #[.agg #[.int .i64 x.1.f0, .int .i64 x.1.f1, .int .i64 x.1.f2], .agg #[.int .i64 y.1.f0, .int .i64 y.1.f1, .int .i64 y.1.f2]] w fun e w' => e = .returned (.int .i64 (cf262 x y)) ∧ ∃ q os', w' = grow (w.drewN q) os' := by
  obtain ⟨x, hx⟩ := x
  obtain ⟨y, hy⟩ := y
  unfold B262 at hx hy
  go_enter Tryz.func167, Tryz.ntmps167
  go_wp2
  go_ret
  exact ⟨rfl, 0, _, by rw [alloc_eq_grow, alloc_eq_grow, grow_grow]; rfl⟩
theorem aggE262 : ∀ w, (isAgg 163).run Tryz.prog w = .ok true w := fun _ => by kernel_rfl
theorem sizeE262 : ∀ w, (Go.sizeOf 163).run Tryz.prog w = .ok 3 w := fun _ => by kernel_rfl
theorem swo262 : SWO (ltOf cf262) where
  irrefl x := by
    refine decide_eq_false ?_
    unfold cf262
    omega
  trans x y z h1 h2 := by
    have h1 := of_decide_eq_true h1
    have h2 := of_decide_eq_true h2
    refine decide_eq_true ?_
    unfold cf262 at *
    omega
  ntrans x y z h1 h2 := by
    have h1 := of_decide_eq_false h1
    have h2 := of_decide_eq_false h2
    refine decide_eq_false ?_
    unfold cf262 at *
    omega
theorem lays262 (blk off size : Nat) (w : World) : CmpLays Tryz.prog 167 #[] eb262 3 cf262 blk off size w := fun m os dk _ x y => c263 x y _
theorem ent263 : ∀ args w, (callFunc 167 args).run Tryz.prog w = .ok (.enter 167 args) w := enters_of Tryz.func167 (by kernel_rfl) rfl
theorem sf262 (g cap : Nat) (D : Array {x : S163 // B262 x}) (w : World) (hH : Go.Sort.HoldsK eb262 3 w g 0 D) (hlt : g < w.heap.size) (hsz : D.size < 4611686018427387904) :
    Calls Tryz.prog 166 #[.slice (some ⟨g, 0, none⟩) D.size cap, .func (.func 167) #[] #[]] w fun e w' =>
      e = .returned (.tuple #[]) ∧ ∃ d' n os, PermIn 0 D.size D d' ∧ SortedIn (ltOf cf262) 0 D.size d' ∧ w' = Go.Proofs.sortWorldK eb262 3 w g 0 n d' os :=
  AnyQ.slices_SortFunc Tryz.sortEdge 3 aggE262 sizeE262 eb262 (fun y => flat262.len y.1) (fun y => flat262.one y.1) cf262 swo262 167 #[] g 0 cap D w ent263 (lays262 g 0 D.size w) hH hlt hsz
set_option maxHeartbeats 1000000 in
set_option maxRecDepth 100000 in
theorem c262 (v : Value) (xs : List S163) (w0 w : World) (base : Nat) (hx : ∀ x ∈ xs, B262 x) (HO : k163.R 163 w base (fun _ => True) v xs) (HB : Below base w0 w) (hbase : base ≤ w.heap.size) (hl : xs.length ≤ 100000000) :
    Calls Tryz.prog 166 #[v, .func (.func 167) #[] #[]] w (Sorted w0 w base k163 163 v xs (fun a b => a.f0 ≤ b.f0)) := by
  by_cases hne : 0 < xs.length
  · have hys : (xs.attachWith B262 hx).map Subtype.val = xs := by simp
    have hyl : (xs.attachWith B262 hx).length = xs.length := by simp
    generalize xs.attachWith B262 hx = ys at hys hyl
    obtain ⟨g, cap, rfl, hlt, hH, hback⟩ := R_sortable flat262 Subtype.val hys HO hne
    have eg : ∀ args w, (callFunc 167 args).run Tryz.prog w = .ok (.enter 167 args) w := enters_of Tryz.func167 (by kernel_rfl) rfl
    have hcon := sf262 g cap ys.toArray w hH hlt (by simp [hyl]; omega)
    have hsz : ys.toArray.size = xs.length := by simp [hyl]
    rw [hsz] at hcon
    refine hcon.mono ?_
    rintro e w' ⟨rfl, D, n, os, hp, hs, rfl⟩
    rw [← hsz] at hp hs
    have hDs : D.size = ys.length := by have := hp.1; simpa using this
    obtain ⟨hR, hg⟩ := hback n D os hDs
    refine ⟨rfl, D.toList.map Subtype.val, ?_, ?_, hR, HB.grown hg hbase (by
      intro k hk
      exact Kd.N_base (Kd.R_N HO) k hk), hg⟩
    · rw [← hys]
      exact (perm_of hp).map _
    · rw [List.pairwise_map]
      refine (sorted_of (by rw [hDs]; simpa using hs)).imp ?_
      intro a b hab
      have hab := of_decide_eq_false hab
      unfold cf262 at hab
      omega
  · obtain rfl : xs = [] := List.eq_nil_of_length_eq_zero (by omega)
    obtain ⟨A, c, rfl⟩ := Kd.R_slice HO
    refine (AnyF.slices_SortFunc_none Tryz.sortEdge A c (.func (.func 167) #[] #[]) w).mono ?_
    rintro e w' ⟨rfl, rfl⟩
    exact ⟨rfl, [], List.Perm.refl _, List.Pairwise.nil, HO, HB, grown_of_below (Below.refl _ _) _⟩
end Go.Proofs.YtiamihkfphmohaaGreatDoor.PA

namespace Go.Proofs.YtiamihkfphmohaaGreatDoor.PA
open Go.RowKit Go.Proofs.YtiamihkfphmohaaGreatDoorW.PrintWords Go.Proofs.YtiamihkfphmohaaGreatDoorW.PrintLast Go.Proofs.YtiamihkfphmohaaGreatDoorW.PrintMore

theorem flat_at {α : Type} {enc : α → List Value} {sz : Nat} (hl : ∀ x, (enc x).length = sz) : ∀ (ys : List α) (j i : Nat), i < sz → (ys.flatMap enc)[j * sz + i]? = (ys[j]?).bind (fun y => (enc y)[i]?)
  | [], j, i, hi => by simp
  | y :: ys, 0, i, hi => by
    rw [List.flatMap_cons, Nat.zero_mul, Nat.zero_add, List.getElem?_append_left (by rw [hl]; exact hi)]
    rfl
  | y :: ys, j + 1, i, hi => by
    rw [List.flatMap_cons, List.getElem?_append_right (by rw [hl, Nat.succ_mul]; omega), hl]
    have e : (j + 1) * sz + i - sz = j * sz + i := by rw [Nat.succ_mul]; omega
    rw [e, flat_at hl ys j i hi]
    rfl
theorem C_flat {α : Type} {d : Kd α} {enc : α → List Value} (hF : Flat d enc) {W : World} {g t : Nat} {cs : Array Value} (hb : W.heap[g]? = some (.cells cs t (0, 0))) (ys : List α) (hcs : cs = (ys.flatMap enc).toArray) (n : Nat) (hn : ys.length = n) (hlen : n ≤ 9223372036854775807) : d.C W (some ⟨g, 0, none⟩) n ys := by
  subst hcs
  refine ⟨hn, hlen, fun _ => ⟨_, rfl, fun j p hj => ⟨enc p, hF.len p, d.K_of_M (base := 0) (ok := fun _ => True) (hF.iff_.2 rfl), fun i u hu => ?_⟩⟩⟩
  have hi : i < d.sz := by
    have := (List.getElem?_eq_some_iff.1 hu).1
    rw [hF.len p] at this
    exact this
  rw [Go.Proofs.YtiamihkfphmohaaGreatDoorW.PrintWords.add_plain, blk_cell hb, List.getElem?_toArray, flat_at hF.len ys j i hi, hj]
  exact hu
theorem RR_flat {α : Type} {d : Kd α} {enc : α → List Value} (hF : Flat d enc) {W : World} {g t : Nat} {cs : Array Value} (hb : W.heap[g]? = some (.cells cs t (0, 0))) (ys : List α) (hcs : cs = (ys.flatMap enc).toArray) (n : Nat) (hn : ys.length = n) (hlen : n ≤ 9223372036854775807) : ReadsRow (fun x cs => cs = enc x) d.sz W (some ⟨g, 0, none⟩) n ys := by
  subst hcs
  refine ⟨hn, hlen, fun _ => ⟨_, rfl, fun j p hj => ⟨enc p, hF.len p, rfl, fun i u hu => ?_⟩⟩⟩
  have hi : i < d.sz := by
    have := (List.getElem?_eq_some_iff.1 hu).1
    rw [hF.len p] at this
    exact this
  rw [Go.Proofs.YtiamihkfphmohaaGreatDoorW.PrintWords.add_plain, blk_cell hb, List.getElem?_toArray, flat_at hF.len ys j i hi, hj]
  exact hu
theorem take_step {α : Type} {l : List α} {k : Nat} (h : k < l.length) : l.take (k + 1) = l.take k ++ [l[k]] := List.take_succ_eq_append_getElem h
/-- What two lists of periods turn at: where (f0), in the first (f1), in the second (f2). -/
def eA (l : List S50) : List S163 := l.flatMap fun p => if pv p then [⟨p.f0, 1, 0⟩, ⟨p.f1, -1, 0⟩] else []
def eB (l : List S50) : List S163 := l.flatMap fun p => if pv p then [⟨p.f0, 0, 1⟩, ⟨p.f1, 0, -1⟩] else []
theorem eA_step {l : List S50} {k : Nat} (h : k < l.length) : eA (l.take (k + 1)) = eA (l.take k) ++ (if pv (rd_T50 l k) then [⟨(rd_T50 l k).f0, 1, 0⟩, ⟨(rd_T50 l k).f1, -1, 0⟩] else []) := by
  rw [take_step h, eA, List.flatMap_append]
  simp [eA, rd_T50, h]
theorem eB_step {l : List S50} {k : Nat} (h : k < l.length) : eB (l.take (k + 1)) = eB (l.take k) ++ (if pv (rd_T50 l k) then [⟨(rd_T50 l k).f0, 0, 1⟩, ⟨(rd_T50 l k).f1, 0, -1⟩] else []) := by
  rw [take_step h, eB, List.flatMap_append]
  simp [eB, rd_T50, h]
theorem eA_len (l : List S50) : (eA l).length ≤ 2 * l.length := by
  induction l with
  | nil => simp [eA]
  | cons p l ih =>
    have : eA (p :: l) = (if pv p then [⟨p.f0, 1, 0⟩, ⟨p.f1, -1, 0⟩] else []) ++ eA l := rfl
    rw [this, List.length_append, List.length_cons]
    split <;> simp <;> omega
theorem eB_len (l : List S50) : (eB l).length ≤ 2 * l.length := by
  induction l with
  | nil => simp [eB]
  | cons p l ih =>
    have : eB (p :: l) = (if pv p then [⟨p.f0, 0, 1⟩, ⟨p.f1, 0, -1⟩] else []) ++ eB l := rfl
    rw [this, List.length_append, List.length_cons]
    split <;> simp <;> omega
theorem eAB_ok (a b : List S50) : ∀ x ∈ eA a ++ eB b, B262 x := by
  intro x hx
  unfold B262
  rcases List.mem_append.1 hx with hx | hx
  · obtain ⟨p, _, hp⟩ := List.mem_flatMap.1 hx
    by_cases h : pv p = true
    · have hv := pv_iff.1 h
      rw [if_pos h] at hp
      simp at hp
      rcases hp with rfl | rfl <;> simp only <;> omega
    · rw [if_neg h] at hp
      simp at hp
  · obtain ⟨p, _, hp⟩ := List.mem_flatMap.1 hx
    by_cases h : pv p = true
    · have hv := pv_iff.1 h
      rw [if_pos h] at hp
      simp at hp
      rcases hp with rfl | rfl <;> simp only <;> omega
    · rw [if_neg h] at hp
      simp at hp
def Edges (w : World) (a b : List S50) (e : Ending) (w' : World) : Prop := ∃ v ys, e = .returned v ∧ ys.Perm (eA a ++ eB b) ∧ ys.Pairwise (fun x y => x.f0 ≤ y.f0) ∧ k163.R 163 w' w.heap.size (fun _ => True) v ys ∧ Below w.heap.size w w'
set_option maxHeartbeats 2000000 in
set_option maxRecDepth 100000 in
theorem c222 (A1 : Option Addr) (n1 c1 : Nat) (a : List S50) (A2 : Option Addr) (n2 c2 : Nat) (b : List S50) (w : World) (hr1 : k50.C w A1 n1 a) (hr2 : k50.C w A2 n2 b) (ha : a.length ≤ 1000000) (hb : b.length ≤ 1000000) :
    Calls Tryz.prog 131 #[.slice A1 n1 c1, .slice A2 n2 c2] w (Edges w a b) := by
  obtain rfl := hr1.1
  obtain rfl := hr2.1
  have HR1 := Aside0.mk hr1
  have HR2 := Aside0.mk hr2
  clear hr1 hr2
  go_enter Tryz.func131, Tryz.ntmps131
  go_wp2
  go_loopw [5, 12] (fun v i wr => ∃ k : Nat, i = .int .i64 k ∧ k ≤ a.length ∧ Aside0 (k163.R 163 wr w.heap.size (fun _ => True) v (eA (a.take k))) ∧ Aside0 (Below w.heap.size w wr)) (fun _ i _ => a.length - (intOf i).toNat)
  case atStart => exact ⟨0, rfl, Nat.zero_le _, ⟨Kd.R_nil _ _ _ _ _⟩, ⟨Below.refl _ _⟩⟩
  case round =>
    obtain ⟨k, rfl, hk', HO, HB⟩ := hrel
    by_cases h1 : k < a.length
    · have hst := Lib.hid (eA_step h1)
      have hln := eA_len (a.take k)
      have hln2 : (a.take k).length ≤ k := by simp; omega
      obtain ⟨xa, rfl, x0, x1⟩ := at_T50 HR1.out k (by omega) (by omega)
      rw [Int.toNat_natCast] at x0 x1
      replace x0 := pw_cell_below HB.out x0
      replace x1 := pw_cell_below HB.out x1
      have hk1 : (0 : Int) ≤ k := by omega
      have hk2 : (k : Int) < a.length := by omega
      go_wp2_with fail
      refine (c147 _ _ _).mono ?_
      rintro e w1 ⟨rfl, hb1⟩
      have z0 := pw_cell_below hb1 (a := ⟨wr.heap.size, 0, none⟩) (v := .int .i64 (rd_T50 a k).f0) (by simp)
      have z1 := pw_cell_below hb1 (a := ⟨wr.heap.size, 1, none⟩) (v := .int .i64 (rd_T50 a k).f1) (by simp)
      have hs0 : wr.heap.size < w1.heap.size := by have := hb1.size; simp at this; omega
      have HO1 := Aside0.mk (Kd.R_below (Kd.R_alloc HO.out _) hb1)
      have HB1 := Aside0.mk (below_step (below_alloc HB.out _) hb1)
      clear HO HB hb1 x0 x1
      generalize wr.heap.size = gb at *
      by_cases hv : pv ⟨(rd_T50 a k).f0, (rd_T50 a k).f1⟩ = true
      · go_wp2_with (at_builtin; refine Kd.R_append_rows k163 (Rr := fun x cs => cs = en262 x) (w0 := w) w.heap.size rfl (.tmp 18) (.tmp 25) 160 163 (.agg #[(.int .i64 0), (.int .i64 0), (.int .i64 0)]) 24 rfl Tryz.underlying160 info163 rfl (by decide) (by omega) u5 (eA (a.take k)) [⟨(rd_T50 a k).f0, 1, 0⟩, ⟨(rd_T50 a k).f1, -1, 0⟩] (some ⟨w1.heap.size, 0, none⟩) 2 2 (fun _ => True) (fun _ => False) rfl rfl ?aO ?aR ?aK (fun _ hk => hk.elim) (fun _ _ => trivial) ?aB ?aS ?aL ?_; (case aO => exact (Kd.R_alloc HO1.out _)); (case aR => exact (RR_flat flat262 (hd_alloc_eq rfl) _ rfl _ rfl (by decide))); (case aK => exact (fun x cs h => flat262.iff_.2 h)); (case aB => exact (below_alloc HB1.out _)); (case aS => exact (below_size (below_alloc HB1.out _))); (case aL => exact (by first | omega | (simp; omega))); intro v1 w1 ho hb hg hat; skip)
        exact ⟨⟨k + 1, by go_num, h1, ⟨by rw [hst.out, if_pos hv]; exact ho⟩, ⟨hb⟩⟩, by simp [intOf]; omega⟩
      · go_wp2
        exact ⟨⟨k + 1, by go_num, h1, ⟨by rw [hst.out, if_neg hv, List.append_nil]; exact HO1.out⟩, HB1⟩, by simp [intOf]; omega⟩
    · clear HR1
      go_wp2
      go_loopw [5, 30] (fun v i wr => ∃ k : Nat, i = .int .i64 k ∧ k ≤ b.length ∧ Aside0 (k163.R 163 wr w.heap.size (fun _ => True) v (eA a ++ eB (b.take k))) ∧ Aside0 (Below w.heap.size w wr)) (fun _ i _ => b.length - (intOf i).toNat)
      case atStart => exact ⟨0, rfl, Nat.zero_le _, ⟨by rw [show a.take k = a from List.take_of_length_le (by omega)] at HO; simpa [eB] using HO.out⟩, HB⟩
      case round =>
        obtain ⟨k2, rfl, hk2', HO, HB⟩ := hrel
        by_cases h2 : k2 < b.length
        · have hst := Lib.hid (eB_step h2)
          have hln := eB_len (b.take k2)
          have hla := eA_len a
          have hln2 : (b.take k2).length ≤ k2 := by simp; omega
          obtain ⟨xa, rfl, x0, x1⟩ := at_T50 HR2.out k2 (by omega) (by omega)
          rw [Int.toNat_natCast] at x0 x1
          replace x0 := pw_cell_below HB.out x0
          replace x1 := pw_cell_below HB.out x1
          have hk1 : (0 : Int) ≤ k2 := by omega
          have hk2 : (k2 : Int) < b.length := by omega
          go_wp2_with fail
          refine (c147 _ _ _).mono ?_
          rintro e w1 ⟨rfl, hb1⟩
          have z0 := pw_cell_below hb1 (a := ⟨wr.heap.size, 0, none⟩) (v := .int .i64 (rd_T50 b k2).f0) (by simp)
          have z1 := pw_cell_below hb1 (a := ⟨wr.heap.size, 1, none⟩) (v := .int .i64 (rd_T50 b k2).f1) (by simp)
          have hs0 : wr.heap.size < w1.heap.size := by have := hb1.size; simp at this; omega
          have HO1 := Aside0.mk (Kd.R_below (Kd.R_alloc HO.out _) hb1)
          have HB1 := Aside0.mk (below_step (below_alloc HB.out _) hb1)
          clear HO HB hb1 x0 x1
          generalize wr.heap.size = gb at *
          by_cases hv : pv ⟨(rd_T50 b k2).f0, (rd_T50 b k2).f1⟩ = true
          · go_wp2_with (at_builtin; refine Kd.R_append_rows k163 (Rr := fun x cs => cs = en262 x) (w0 := w) w.heap.size rfl (.tmp 36) (.tmp 43) 160 163 (.agg #[(.int .i64 0), (.int .i64 0), (.int .i64 0)]) 24 rfl Tryz.underlying160 info163 rfl (by decide) (by omega) u5 (eA a ++ eB (b.take k2)) [⟨(rd_T50 b k2).f0, 0, 1⟩, ⟨(rd_T50 b k2).f1, 0, -1⟩] (some ⟨w1.heap.size, 0, none⟩) 2 2 (fun _ => True) (fun _ => False) rfl rfl ?aO ?aR ?aK (fun _ hk => hk.elim) (fun _ _ => trivial) ?aB ?aS ?aL ?_; (case aO => exact (Kd.R_alloc HO1.out _)); (case aR => exact (RR_flat flat262 (hd_alloc_eq rfl) _ rfl _ rfl (by decide))); (case aK => exact (fun x cs h => flat262.iff_.2 h)); (case aB => exact (below_alloc HB1.out _)); (case aS => exact (below_size (below_alloc HB1.out _))); (case aL => exact (by simp only [List.length_append]; omega)); intro v1 w1 ho hb hg hat; skip)
            exact ⟨⟨k2 + 1, by go_num, h2, ⟨by rw [hst.out, if_pos hv, ← List.append_assoc]; exact ho⟩, ⟨hb⟩⟩, by simp [intOf]; omega⟩
          · go_wp2
            exact ⟨⟨k2 + 1, by go_num, h2, ⟨by rw [hst.out, if_neg hv, List.append_nil]; exact HO1.out⟩, HB1⟩, by simp [intOf]; omega⟩
        · rw [show b.take k2 = b from List.take_of_length_le (by omega)] at HO
          clear HR2
          have hla := eA_len a
          have hlb := eB_len b
          go_wp2_with fail
          refine (c262 _ _ w _ w.heap.size (eAB_ok a b) HO.out HB.out (below_size HB.out) (by simp only [List.length_append]; omega)).mono ?_
          rintro e w1 ⟨rfl, ys, hp, hs, hR, hB, hg⟩
          have HF := Lib.hid hs
          have HP := Lib.hid hp
          have HR := Aside0.mk hR
          have HB1 := Aside0.mk hB
          clear hs hp hR hB hg HO HB
          go_wp2
          go_ret
          exact ⟨_, ys, rfl, HP.out, HF.out, HR.out, HB1.out⟩
end Go.Proofs.YtiamihkfphmohaaGreatDoor.PA

namespace Go.Proofs.YtiamihkfphmohaaGreatDoor.PA
/-! ### The sweep, in plain words -/
def smA : List S163 → Int
  | [] => 0
  | x :: l => x.f1 + smA l
def smB : List S163 → Int
  | [] => 0
  | x :: l => x.f2 + smB l
theorem smA_append (l m : List S163) : smA (l ++ m) = smA l + smA m := by
  induction l with
  | nil => simp [smA]
  | cons x l ih => simp only [List.cons_append, smA, ih]; omega
theorem smB_append (l m : List S163) : smB (l ++ m) = smB l + smB m := by
  induction l with
  | nil => simp [smB]
  | cons x l ih => simp only [List.cons_append, smB, ih]; omega
theorem smA_perm {l m : List S163} (h : l.Perm m) : smA l = smA m := by
  induction h with
  | nil => rfl
  | cons x _ ih => simp only [smA, ih]
  | swap x y l => simp only [smA]; omega
  | trans _ _ h1 h2 => exact h1.trans h2
theorem smB_perm {l m : List S163} (h : l.Perm m) : smB l = smB m := by
  induction h with
  | nil => rfl
  | cons x _ ih => simp only [smB, ih]
  | swap x y l => simp only [smB]; omega
  | trans _ _ h1 h2 => exact h1.trans h2
/-- How many periods contain an instant. -/
def cnt (l : List S50) (t : Int) : Int := match l with
  | [] => 0
  | p :: l => (if pc p t then 1 else 0) + cnt l t
theorem cnt_nonneg (l : List S50) (t : Int) : 0 ≤ cnt l t := by
  induction l with
  | nil => simp [cnt]
  | cons p l ih => simp only [cnt]; split <;> omega
theorem cnt_pos (l : List S50) (t : Int) : decide (cnt l t > 0) = sc l t := by
  induction l with
  | nil => rfl
  | cons p l ih =>
    have h0 := cnt_nonneg l t
    have ih' : cnt l t > 0 ↔ sc l t = true := by rw [← ih, decide_eq_true_eq]
    have e : cnt (p :: l) t = (if pc p t then 1 else 0) + cnt l t := rfl
    rw [Bool.eq_iff_iff, decide_eq_true_eq, sc_cons, Bool.or_eq_true, ← ih', e]
    by_cases h : pc p t = true
    · rw [if_pos h]
      simp only [h, true_or, iff_true]
      omega
    · rw [if_neg h]
      simp only [h, false_or, Bool.false_eq_true]
      omega
theorem smA_cnt (a b : List S50) (t : Int) : smA ((eA a ++ eB b).filter (fun x => decide (x.f0 ≤ t))) = cnt a t := by
  rw [List.filter_append, smA_append]
  have h1 : ∀ b : List S50, smA ((eB b).filter (fun x => decide (x.f0 ≤ t))) = 0 := by
    intro b
    induction b with
    | nil => rfl
    | cons p b ih =>
      have e : eB (p :: b) = (if pv p then [⟨p.f0, 0, 1⟩, ⟨p.f1, 0, -1⟩] else []) ++ eB b := rfl
      rw [e, List.filter_append, smA_append, ih]
      split
      · simp only [List.filter_cons, List.filter_nil]
        split <;> split <;> simp [smA]
      · simp [smA]
  rw [h1, Int.add_zero]
  induction a with
  | nil => rfl
  | cons p a ih =>
    have e : eA (p :: a) = (if pv p then [⟨p.f0, 1, 0⟩, ⟨p.f1, -1, 0⟩] else []) ++ eA a := rfl
    rw [e, List.filter_append, smA_append, ih]
    simp only [cnt]
    congr 1
    by_cases hv : pv p = true
    · have hp := pv_iff.1 hv
      rw [if_pos hv]
      simp only [List.filter_cons, List.filter_nil, decide_eq_true_eq]
      by_cases h0 : p.f0 ≤ t
      · by_cases h2 : p.f1 ≤ t
        · rw [if_pos h0, if_pos h2, if_neg (by rw [pc_iff]; omega)]
          rfl
        · rw [if_pos h0, if_neg h2, if_pos (by rw [pc_iff]; omega)]
          rfl
      · rw [if_neg h0, if_neg (by omega), if_neg (by rw [pc_iff]; omega)]
        rfl
    · rw [if_neg hv, if_neg (by simp [pc, hv])]
      rfl
theorem smB_cnt (a b : List S50) (t : Int) : smB ((eA a ++ eB b).filter (fun x => decide (x.f0 ≤ t))) = cnt b t := by
  rw [List.filter_append, smB_append]
  have h1 : ∀ b : List S50, smB ((eA b).filter (fun x => decide (x.f0 ≤ t))) = 0 := by
    intro b
    induction b with
    | nil => rfl
    | cons p b ih =>
      have e : eA (p :: b) = (if pv p then [⟨p.f0, 1, 0⟩, ⟨p.f1, -1, 0⟩] else []) ++ eA b := rfl
      rw [e, List.filter_append, smB_append, ih]
      split
      · simp only [List.filter_cons, List.filter_nil]
        split <;> split <;> simp [smB]
      · simp [smB]
  rw [h1, Int.zero_add]
  induction b with
  | nil => rfl
  | cons p b ih =>
    have e : eB (p :: b) = (if pv p then [⟨p.f0, 0, 1⟩, ⟨p.f1, 0, -1⟩] else []) ++ eB b := rfl
    rw [e, List.filter_append, smB_append, ih]
    simp only [cnt]
    congr 1
    by_cases hv : pv p = true
    · have hp := pv_iff.1 hv
      rw [if_pos hv]
      simp only [List.filter_cons, List.filter_nil, decide_eq_true_eq]
      by_cases h0 : p.f0 ≤ t
      · by_cases h2 : p.f1 ≤ t
        · rw [if_pos h0, if_pos h2, if_neg (by rw [pc_iff]; omega)]
          rfl
        · rw [if_pos h0, if_neg h2, if_pos (by rw [pc_iff]; omega)]
          rfl
      · rw [if_neg h0, if_neg (by omega), if_neg (by rw [pc_iff]; omega)]
        rfl
    · rw [if_neg hv, if_neg (by simp [pc, hv])]
      rfl
/-- What is turned at t or before is the first i. -/
theorem filter_take {ys : List S163} {i : Nat} {t : Int} (h1 : ∀ x ∈ ys.take i, x.f0 ≤ t) (h2 : ∀ x ∈ ys.drop i, t < x.f0) : ys.filter (fun x => decide (x.f0 ≤ t)) = ys.take i := by
  conv => lhs; rw [← List.take_append_drop i ys]
  rw [List.filter_append, List.filter_eq_self.2 (fun x hx => decide_eq_true (h1 x hx)), List.filter_eq_nil_iff.2 (fun x hx => by have := h2 x hx; simp; omega), List.append_nil]
def SwI (kf : Bool → Bool → Bool) (a b : List S50) (ys : List S163) (x : Int) (i : Nat) (o : List S50) : Prop :=
  (0 ≤ x ∧ x ≤ 1099511627776 ∧ i ≤ ys.length ∧ o.length ≤ i + 1 ∧ (x = 0 → o = [])) ∧ (∀ y ∈ ys.take i, y.f0 < x) ∧ (∀ y ∈ ys.drop i, x ≤ y.f0) ∧
  (x = 0 ∨ x = 1099511627776 ∨ (i < ys.length ∧ ∀ y, ys[i]? = some y → y.f0 = x)) ∧ SpanTo x o ∧ ∀ t, sc o t = (decide (0 ≤ t ∧ t < x) && kf (sc a t) (sc b t))
theorem SwI_start (kf : Bool → Bool → Bool) (a b : List S50) (ys : List S163) (h : ∀ y ∈ ys, B262 y) : SwI kf a b ys 0 0 [] :=
  ⟨⟨by omega, by omega, Nat.zero_le _, Nat.zero_le _, fun _ => rfl⟩, by simp, fun y hy => (h y (by simpa using hy)).1, .inl rfl, SpanTo.nil 0, fun t => by rw [sc_nil, decide_eq_false (by omega : ¬ (0 ≤ t ∧ t < 0)), Bool.false_and]⟩
theorem SwI_round {kf : Bool → Bool → Bool} {a b : List S50} {ys : List S163} {x nx : Int} {i j : Nat} {o : List S50} (hp : ys.Perm (eA a ++ eB b)) (h : SwI kf a b ys x i o) (hx : x < 1099511627776)
    (hij : i ≤ j) (hj : j ≤ ys.length) (h1 : ∀ y ∈ ys.take j, y.f0 ≤ x) (h2 : ∀ y ∈ ys.drop j, nx ≤ y.f0) (hnx : x < nx) (hnF : nx ≤ 1099511627776) (hprog : i = j → x = 0) (hn : nx = 1099511627776 ∨ (j < ys.length ∧ ∀ y, ys[j]? = some y → y.f0 = nx)) :
    SwI kf a b ys nx j (if kf (decide (smA (ys.take j) > 0)) (decide (smB (ys.take j) > 0)) then jn o ⟨x, nx⟩ else o) := by
  obtain ⟨⟨hx0, hxF, hi, hlen, hnil⟩, _, _, _, hs, hc⟩ := h
  have key : ∀ t, x ≤ t → t < nx → decide (smA (ys.take j) > 0) = sc a t ∧ decide (smB (ys.take j) > 0) = sc b t := by
    intro t ht1 ht2
    have hf := filter_take (t := t) (fun y hy => Int.le_trans (h1 y hy) ht1) (fun y hy => by have := h2 y hy; omega)
    have hpf := hp.filter (fun x => decide (x.f0 ≤ t))
    rw [hf] at hpf
    rw [smA_perm hpf, smB_perm hpf, smA_cnt, smB_cnt, cnt_pos, cnt_pos]
    exact ⟨rfl, rfl⟩
  have hk : kf (decide (smA (ys.take j) > 0)) (decide (smB (ys.take j) > 0)) = kf (sc a x) (sc b x) := by
    obtain ⟨e1, e2⟩ := key x (Int.le_refl _) hnx
    rw [e1, e2]
  have hkt : ∀ t, x ≤ t → t < nx → kf (sc a t) (sc b t) = kf (decide (smA (ys.take j) > 0)) (decide (smB (ys.take j) > 0)) := by
    intro t ht1 ht2
    obtain ⟨e1, e2⟩ := key t ht1 ht2
    rw [e1, e2]
  have hpv : pv ⟨x, nx⟩ = true := pv_iff.2 (by simp only; omega)
  have hjl : (jn o ⟨x, nx⟩).length ≤ o.length + 1 := by
    rcases snoc_cases o with rfl | ⟨m, q, rfl⟩
    · simp [jn_nil]
    · rw [jn_snoc]; split <;> simp
  have hlen' : o.length + 1 ≤ j + 1 := by
    rcases Nat.lt_or_ge i j with h3 | h3
    · omega
    · have := hprog (by omega)
      rw [hnil this]
      simp
  refine ⟨⟨by omega, hnF, hj, ?_, fun h0 => by omega⟩, fun y hy => by have := h1 y hy; omega, h2, ?_, ?_, ?_⟩
  · split <;> omega
  · rcases hn with h3 | h3
    · exact .inr (.inl h3)
    · exact .inr (.inr h3)
  · by_cases hg : kf (decide (smA (ys.take j) > 0)) (decide (smB (ys.take j) > 0)) = true
    · rw [if_pos hg]
      exact (jn_ok (p := ⟨x, nx⟩) hs hpv).1
    · rw [if_neg hg]
      exact hs.up (by omega)
  · intro t
    by_cases hg : kf (decide (smA (ys.take j) > 0)) (decide (smB (ys.take j) > 0)) = true
    · rw [if_pos hg, (jn_ok (p := ⟨x, nx⟩) hs hpv).2 t, hc t]
      rw [Bool.eq_iff_iff, Bool.or_eq_true, Bool.and_eq_true, Bool.and_eq_true, decide_eq_true_eq, decide_eq_true_eq, pc_iff]
      simp only
      constructor
      · rintro (⟨h3, h4⟩ | ⟨_, h3, h4⟩)
        · exact ⟨by omega, h4⟩
        · exact ⟨by omega, by rw [hkt t h3 h4]; exact hg⟩
      · rintro ⟨h3, h4⟩
        by_cases h5 : t < x
        · exact .inl ⟨by omega, h4⟩
        · exact .inr ⟨by omega, by omega, by omega⟩
    · rw [if_neg hg, hc t]
      by_cases h3 : x ≤ t ∧ t < nx
      · rw [hkt t h3.1 h3.2, Bool.eq_false_iff.2 hg, Bool.and_false, Bool.and_false]
      · congr 1
        by_cases h4 : 0 ≤ t ∧ t < x
        · rw [decide_eq_true h4, decide_eq_true (by omega)]
        · rw [decide_eq_false h4, decide_eq_false (by omega)]
theorem SwI_end {kf : Bool → Bool → Bool} {a b : List S50} {ys : List S163} {i : Nat} {o : List S50} (h : SwI kf a b ys 1099511627776 i o) : SpanOK o ∧ ∀ t, sc o t = (decide (0 ≤ t ∧ t < 1099511627776) && kf (sc a t) (sc b t)) := ⟨h.2.2.2.2.1.1, h.2.2.2.2.2⟩
end Go.Proofs.YtiamihkfphmohaaGreatDoor.PA

namespace Go.Proofs.YtiamihkfphmohaaGreatDoor.PA
open Go.RowKit Go.Proofs.YtiamihkfphmohaaGreatDoorW.PrintWords Go.Proofs.YtiamihkfphmohaaGreatDoorW.PrintLast Go.Proofs.YtiamihkfphmohaaGreatDoorW.PrintMore

/-- The span of what kf selects. -/
def SpanRes (kf : Bool → Bool → Bool) (w : World) (a b : List S50) (e : Ending) (w' : World) : Prop :=
  ∃ v r, e = .returned v ∧ SpanOK r ∧ (∀ t, sc r t = (decide (0 ≤ t ∧ t < 1099511627776) && kf (sc a t) (sc b t))) ∧ r.length ≤ 2 * a.length + 2 * b.length + 1 ∧ Kd.R k50 50 w' w.heap.size (fun _ => True) v r ∧ Below w.heap.size w w'
theorem rd_take {l : List S163} {i : Nat} (h : i < l.length) : l.take (i + 1) = l.take i ++ [rd_T163 l i] := by
  rw [take_step h]
  simp [rd_T163, h]
theorem eAB_one (a b : List S50) : ∀ x ∈ eA a ++ eB b, (-1 ≤ x.f1 ∧ x.f1 ≤ 1) ∧ -1 ≤ x.f2 ∧ x.f2 ≤ 1 := by
  intro x hx
  rcases List.mem_append.1 hx with hx | hx
  · obtain ⟨p, _, hp⟩ := List.mem_flatMap.1 hx
    split at hp
    · simp at hp
      rcases hp with rfl | rfl <;> simp
    · simp at hp
  · obtain ⟨p, _, hp⟩ := List.mem_flatMap.1 hx
    split at hp
    · simp at hp
      rcases hp with rfl | rfl <;> simp
    · simp at hp
theorem sm_bd {l : List S163} (h : ∀ x ∈ l, (-1 ≤ x.f1 ∧ x.f1 ≤ 1) ∧ -1 ≤ x.f2 ∧ x.f2 ≤ 1) : (-(l.length : Int) ≤ smA l ∧ smA l ≤ l.length) ∧ -(l.length : Int) ≤ smB l ∧ smB l ≤ l.length := by
  induction l with
  | nil => simp [smA, smB]
  | cons x l ih =>
    have h1 := h x List.mem_cons_self
    have h2 := ih fun y hy => h y (List.mem_cons_of_mem _ hy)
    simp only [smA, smB, List.length_cons]
    omega
/-- Behind the edges at x: those from j on lie later. -/
theorem drop_later {ys : List S163} {j : Nat} {x : Int} (hs : ys.Pairwise (fun x y => x.f0 ≤ y.f0)) (h2 : ∀ y ∈ ys.drop j, x ≤ y.f0) (hj : j < ys.length) (hne : (rd_T163 ys j).f0 ≠ x) : x < (rd_T163 ys j).f0 ∧ ∀ y ∈ ys.drop j, (rd_T163 ys j).f0 ≤ y.f0 := by
  have e : ys.drop j = rd_T163 ys j :: ys.drop (j + 1) := by
    rw [List.drop_eq_getElem_cons hj]
    simp [rd_T163, hj]
  have h0 := h2 (rd_T163 ys j) (by rw [e]; exact List.mem_cons_self)
  have hs' := hs.sublist (List.drop_sublist j ys)
  rw [e] at hs'
  refine ⟨by omega, fun y hy => ?_⟩
  rw [e] at hy
  rcases List.mem_cons.1 hy with rfl | hy
  · exact Int.le_refl _
  · exact (List.pairwise_cons.1 hs').1 y hy
set_option maxHeartbeats 2000000 in
set_option maxRecDepth 100000 in
theorem sweep (kf : Bool → Bool → Bool) (g : Nat) (eg : ∀ args w, (callFunc g args).run Tryz.prog w = .ok (.enter g args) w) (hk : ∀ x y W, Calls Tryz.prog g #[.bool x, .bool y] W fun e w' => e = .returned (.bool (kf x y)) ∧ W = w')
    (A1 : Option Addr) (n1 c1 : Nat) (a : List S50) (A2 : Option Addr) (n2 c2 : Nat) (b : List S50) (w : World) (hr1 : k50.C w A1 n1 a) (hr2 : k50.C w A2 n2 b) (ha : a.length ≤ 1000000) (hb : b.length ≤ 1000000) :
    Calls Tryz.prog 89 #[.slice A1 n1 c1, .slice A2 n2 c2, .func (.func g) #[] #[]] w (SpanRes kf w a b) := by
  have HR1 := Aside0.mk hr1
  have HR2 := Aside0.mk hr2
  have HK := Aside0.mk hk
  clear hr1 hr2 hk
  go_enter Tryz.func89, Tryz.ntmps89
  go_wp2_with fail
  refine (c222 _ _ _ a _ _ _ b w HR1.out HR2.out ha hb).mono ?_
  rintro e w1 ⟨v7, ys, rfl, hp, hs, hR, hB⟩
  obtain ⟨A7, c7, rfl⟩ := Kd.R_slice hR
  have HY := Aside0.mk (Kd.R_reads' hR).2.2
  have HB1 := Aside0.mk hB
  have hyl : ys.length ≤ 2 * a.length + 2 * b.length := by
    have h1 := hp.length_eq
    have h2 := eA_len a
    have h3 := eB_len b
    rw [List.length_append] at h1
    omega
  have HB0 := Lib.hid (fun y (hy : y ∈ ys) => eAB_ok a b y (hp.mem_iff.1 hy))
  have HP := Lib.hid hp
  have HO1 := Lib.hid (fun (i : Nat) => sm_bd (l := ys.take i) (fun x hx => eAB_one a b x (hp.mem_iff.1 (List.mem_of_mem_take hx))))
  have HS := Lib.hid hs
  clear hp hs hR hB HR1 HR2
  go_wp2
  go_loopw [8, 9, 10, 11, 12] (fun v na nb iv xv wr => ∃ (i : Nat) (x : Int) (o : List S50), iv = .int .i64 i ∧ xv = .int .i64 x ∧ na = .int .i64 (smA (ys.take i)) ∧ nb = .int .i64 (smB (ys.take i)) ∧ Aside0 (SwI kf a b ys x i o) ∧ Aside0 (Kd.R k50 50 wr w1.heap.size (fun _ => True) v o) ∧ Aside0 (Below w1.heap.size w1 wr)) (fun _ _ _ _ xv _ => (1099511627776 - intOf xv).toNat)
  case atStart => exact ⟨0, 0, [], rfl, rfl, rfl, rfl, ⟨SwI_start kf a b ys HB0.out⟩, ⟨Kd.R_nil _ _ _ _ _⟩, ⟨Below.refl _ _⟩⟩
  case round =>
    obtain ⟨i, x, o, rfl, rfl, rfl, rfl, HI, HO, HB⟩ := hrel
    have hx0 : 0 ≤ x := HI.out.1.1
    have hxF : x ≤ 1099511627776 := HI.out.1.2.1
    have hi : i ≤ ys.length := HI.out.1.2.2.1
    have hol : o.length ≤ i + 1 := HI.out.1.2.2.2.1
    by_cases hx : x < 1099511627776
    · go_wp2
      go_loopw [9, 10, 11] (fun na nb iv wi => ∃ j : Nat, iv = .int .i64 j ∧ i ≤ j ∧ j ≤ ys.length ∧ na = .int .i64 (smA (ys.take j)) ∧ nb = .int .i64 (smB (ys.take j)) ∧ Aside0 (∀ y ∈ ys.take j, y.f0 ≤ x) ∧ Aside0 (Kd.R k50 50 wi w1.heap.size (fun _ => True) u8 o) ∧ Aside0 (Below w1.heap.size w1 wi)) (fun _ _ iv _ => ys.length - (intOf iv).toNat)
      case atStart => exact ⟨i, rfl, Nat.le_refl _, hi, rfl, rfl, ⟨fun y hy => Int.le_of_lt (HI.out.2.1 y hy)⟩, HO, HB⟩
      case round =>
        obtain ⟨j, rfl, hij, hjl, rfl, rfl, HLE, HO1_, HB_⟩ := hrel
        clear HO HB
        by_cases hj1 : j < ys.length
        · obtain ⟨ya, rfl, y0, y1, y2⟩ := at_T163 HY.out j (by omega) (by omega)
          rw [Int.toNat_natCast] at y0 y1 y2
          replace y0 := pw_cell_below HB_.out y0
          replace y1 := pw_cell_below HB_.out y1
          replace y2 := pw_cell_below HB_.out y2
          have yb := World.block_lt_of_cell? _ _ y0
          have hj2 : (0 : Int) ≤ j := by omega
          have hj3 : (j : Int) < ys.length := by omega
          by_cases hjx : (rd_T163 ys j).f0 = x
          · have e1 : smA (ys.take (j + 1)) = smA (ys.take j) + (rd_T163 ys j).f1 := by rw [rd_take hj1, smA_append]; simp [smA]
            have e2 : smB (ys.take (j + 1)) = smB (ys.take j) + (rd_T163 ys j).f2 := by rw [rd_take hj1, smB_append]; simp [smB]
            have hbd := HO1.out (j + 1)
            have htl : (ys.take (j + 1)).length ≤ 4000000 := by rw [List.length_take]; omega
            rw [e1, e2] at hbd
            have E1 := Lib.hid e1
            have E2 := Lib.hid e2
            clear e1 e2
            go_wp2
            refine ⟨⟨j + 1, by go_num, by omega, hj1, by rw [E1.out], by rw [E2.out], ⟨?_⟩, HO1_, HB_⟩, by simp [intOf]; omega⟩
            intro y hy
            rw [rd_take hj1, List.mem_append, List.mem_singleton] at hy
            rcases hy with hy | rfl
            · exact HLE.out y hy
            · exact Int.le_of_eq hjx
          · obtain ⟨hl1, hl2⟩ := drop_later HS.out (x := x) (fun y hy => (HI.out.2.2.1 y (by have e : ys.drop j = (ys.drop i).drop (j - i) := by { rw [List.drop_drop, Nat.add_sub_cancel' hij] }; rw [e] at hy; exact List.mem_of_mem_drop hy))) hj1 hjx
            have H2 : ∀ y ∈ ys.drop j, (rd_T163 ys j).f0 ≤ y.f0 := hl2
            have hnx : x < (rd_T163 ys j).f0 := hl1
            have hnF : (rd_T163 ys j).f0 ≤ 1099511627776 := (HB0.out (rd_T163 ys j) (by simp [rd_T163, hj1])).2
            have hprog : i = j → x = 0 := by
              rintro rfl
              rcases HI.out.2.2.2.1 with h | h | ⟨_, h⟩
              · exact h
              · omega
              · exact absurd (h (rd_T163 ys i) (by simp [rd_T163, hj1])) hjx
            have hn : (rd_T163 ys j).f0 = 1099511627776 ∨ (j < ys.length ∧ ∀ y, ys[j]? = some y → y.f0 = (rd_T163 ys j).f0) := .inr ⟨hj1, fun y hy => by simp [rd_T163, hy]⟩
            have HSN := Lib.hid (SwI_round (nx := (rd_T163 ys j).f0) HP.out HI.out hx hij hjl HLE.out H2 hnx hnF hprog hn)
            have hHB := HB_.out.size
            clear hprog hn
            go_wp2_with fail
            refine (HK.out _ _ _).mono ?_
            rintro e wk ⟨rfl, rfl⟩
            by_cases hkeep : kf (decide (smA (ys.take j) > 0)) (decide (smB (ys.take j) > 0)) = true
            · rw [if_pos hkeep] at HSN
              by_cases h0 : 0 < o.length
              · have hj := Lib.hid (jn_last h0 ⟨x, (rd_T163 ys j).f0⟩)
                obtain ⟨g1, cap, rfl, hg1, hg2, cells, hg3⟩ := R_form HO1_.out h0
                obtain ⟨ad, e, z0, z1⟩ := at_T50 (Kd.R_reads' HO1_.out).2.2 (o.length - 1 : Int) (by omega) (by omega)
                cases e
                rw [show ((o.length : Int) - 1).toNat = o.length - 1 from by omega] at z0 z1
                simp only [Go.Proofs.YtiamihkfphmohaaGreatDoorW.PrintWords.add_plain] at z0 z1
                have e1 : (0 : Int) ≤ (o.length : Int) - 1 := by omega
                have e2 : (o.length : Int) - 1 < o.length := by omega
                have e3 : (0 : Int) < o.length := by omega
                by_cases hq : (rd_T50 o (o.length - 1 : Int)).f1 = x
                · obtain ⟨ce, hcl, hM, hcc, hfr⟩ := Kd.R_elem HO1_.out z50 (o.length - 1 : Int) (by omega) (by omega)
                  obtain rfl := k50_openM hM
                  have HPP := Aside0.mk (Kd.R_seg HO1_.out (o.length - 1 : Int) (by omega) (by omega) (seg := [.int .i64 (rd_T163 ys j).f0]) (j := 1) hcl hcc (show 2 ≤ 2 from by decide) (x' := ⟨(rd_T50 o (o.length - 1 : Int)).f0, (rd_T163 ys j).f0⟩) (k50_mkM _ _ _ ⟨(rd_T50 o (o.length - 1 : Int)).f0, (rd_T163 ys j).f0⟩) (fun _ hk => hk))
                  have hf1 : wr.frozen? ⟨g1, (o.length - 1) * 2 + 1, none⟩ = false := by
                    have := hfr 1
                    rw [show ((o.length : Int) - 1).toNat = o.length - 1 from by omega] at this
                    exact this
                  have h9 : ((o.length : Int) - 1).toNat * k50.sz + 1 = (o.length - 1) * 2 + 1 := by rw [show ((o.length : Int) - 1).toNat = o.length - 1 from by omega]; rfl
                  clear hcl hM hcc hfr
                  have h9 := Lib.hid h9
                  go_wp2
                  refine ⟨⟨j, (rd_T163 ys j).f0, _, rfl, rfl, rfl, rfl, ⟨by have h := HSN.out; rw [hj.out, if_pos hq] at h; exact h⟩, ⟨?_⟩, ⟨below_set HB_.out hg1⟩⟩, by simp [intOf]; omega⟩
                  have := HPP.out.1
                  rw [h9.out] at this
                  exact this
                · clear z0 hg3
                  go_wp2_with (at_builtin; refine Kd.R_append k50 (w0 := w1) w1.heap.size rfl (.tmp 84) (.tmp 88) 41 50 (.agg #[(.int .i64 0), (.int .i64 0)]) 16 rfl Tryz.underlying41 info50 rfl (by decide) (by omega) (.slice (some ⟨g1, 0, none⟩) o.length cap) o ⟨x, (rd_T163 ys j).f0⟩ [.int .i64 x, .int .i64 (rd_T163 ys j).f0] (fun _ => True) (fun _ => False) rfl rfl (k50_mkM _ _ _ ⟨x, (rd_T163 ys j).f0⟩) (fun _ hk => hk.elim) (fun _ _ => trivial) ?aO ?aB ?aS ?aL ?_; (case aO => exact HO1_.out); (case aB => exact HB_.out); (case aS => exact (below_size HB_.out)); (case aL => exact (by omega)); intro v1 w1 ho hb hg hat; skip)
                  exact ⟨⟨j, (rd_T163 ys j).f0, _, rfl, rfl, rfl, rfl, ⟨by have h := HSN.out; rw [hj.out, if_neg hq] at h; exact h⟩, ⟨ho⟩, ⟨hb⟩⟩, by simp [intOf]; omega⟩
              · obtain rfl : o = [] := List.eq_nil_of_length_eq_zero (by omega)
                obtain ⟨A5, c5, rfl⟩ := Kd.R_slice HO1_.out
                go_wp2_with (at_builtin; refine Kd.R_append k50 (w0 := w1) w1.heap.size rfl (.tmp 84) (.tmp 88) 41 50 (.agg #[(.int .i64 0), (.int .i64 0)]) 16 rfl Tryz.underlying41 info50 rfl (by decide) (by omega) (.slice A5 ([] : List S50).length c5) ([] : List S50) ⟨x, (rd_T163 ys j).f0⟩ [.int .i64 x, .int .i64 (rd_T163 ys j).f0] (fun _ => True) (fun _ => False) rfl rfl (k50_mkM _ _ _ ⟨x, (rd_T163 ys j).f0⟩) (fun _ hk => hk.elim) (fun _ _ => trivial) ?aO ?aB ?aS ?aL ?_; (case aO => exact HO1_.out); (case aB => exact HB_.out); (case aS => exact (below_size HB_.out)); (case aL => exact (by simp)); intro v1 w1 ho hb hg hat; skip)
                exact ⟨⟨j, (rd_T163 ys j).f0, _, rfl, rfl, rfl, rfl, ⟨HSN.out⟩, ⟨ho⟩, ⟨hb⟩⟩, by simp [intOf]; omega⟩
            · rw [if_neg hkeep] at HSN
              go_wp2
              exact ⟨⟨j, (rd_T163 ys j).f0, o, rfl, rfl, rfl, rfl, ⟨HSN.out⟩, HO1_, HB_⟩, by simp [intOf]; omega⟩
        · have hj3 : ¬ (j : Int) < ys.length := by omega
          have H2 : ∀ y ∈ ys.drop j, (1099511627776 : Int) ≤ y.f0 := by simp [List.drop_eq_nil_of_le (show ys.length ≤ j by omega)]
          have hnx : x < 1099511627776 := hx
          have hnF : (1099511627776 : Int) ≤ 1099511627776 := Int.le_refl _
          have hprog : i = j → x = 0 := by
            intro he
            rcases HI.out.2.2.2.1 with h | h | ⟨h, _⟩
            · exact h
            · omega
            · omega
          have hn : (1099511627776 : Int) = 1099511627776 ∨ (j < ys.length ∧ ∀ y, ys[j]? = some y → y.f0 = 1099511627776) := .inl rfl

          have HSN := Lib.hid (SwI_round (nx := 1099511627776) HP.out HI.out hx hij hjl HLE.out H2 hnx hnF hprog hn)
          have hHB := HB_.out.size
          clear hprog hn
          go_wp2_with fail
          refine (HK.out _ _ _).mono ?_
          rintro e wk ⟨rfl, rfl⟩
          by_cases hkeep : kf (decide (smA (ys.take j) > 0)) (decide (smB (ys.take j) > 0)) = true
          · rw [if_pos hkeep] at HSN
            by_cases h0 : 0 < o.length
            · have hj := Lib.hid (jn_last h0 ⟨x, 1099511627776⟩)
              obtain ⟨g1, cap, rfl, hg1, hg2, cells, hg3⟩ := R_form HO1_.out h0
              obtain ⟨ad, e, z0, z1⟩ := at_T50 (Kd.R_reads' HO1_.out).2.2 (o.length - 1 : Int) (by omega) (by omega)
              cases e
              rw [show ((o.length : Int) - 1).toNat = o.length - 1 from by omega] at z0 z1
              simp only [Go.Proofs.YtiamihkfphmohaaGreatDoorW.PrintWords.add_plain] at z0 z1
              have e1 : (0 : Int) ≤ (o.length : Int) - 1 := by omega
              have e2 : (o.length : Int) - 1 < o.length := by omega
              have e3 : (0 : Int) < o.length := by omega
              by_cases hq : (rd_T50 o (o.length - 1 : Int)).f1 = x
              · obtain ⟨ce, hcl, hM, hcc, hfr⟩ := Kd.R_elem HO1_.out z50 (o.length - 1 : Int) (by omega) (by omega)
                obtain rfl := k50_openM hM
                have HPP := Aside0.mk (Kd.R_seg HO1_.out (o.length - 1 : Int) (by omega) (by omega) (seg := [.int .i64 1099511627776]) (j := 1) hcl hcc (show 2 ≤ 2 from by decide) (x' := ⟨(rd_T50 o (o.length - 1 : Int)).f0, 1099511627776⟩) (k50_mkM _ _ _ ⟨(rd_T50 o (o.length - 1 : Int)).f0, 1099511627776⟩) (fun _ hk => hk))
                have hf1 : wr.frozen? ⟨g1, (o.length - 1) * 2 + 1, none⟩ = false := by
                  have := hfr 1
                  rw [show ((o.length : Int) - 1).toNat = o.length - 1 from by omega] at this
                  exact this
                have h9 : ((o.length : Int) - 1).toNat * k50.sz + 1 = (o.length - 1) * 2 + 1 := by rw [show ((o.length : Int) - 1).toNat = o.length - 1 from by omega]; rfl
                clear hcl hM hcc hfr
                have h9 := Lib.hid h9
                go_wp2
                refine ⟨⟨j, 1099511627776, _, rfl, rfl, rfl, rfl, ⟨by have h := HSN.out; rw [hj.out, if_pos hq] at h; exact h⟩, ⟨?_⟩, ⟨below_set HB_.out hg1⟩⟩, by simp [intOf]; omega⟩
                have := HPP.out.1
                rw [h9.out] at this
                exact this
              · clear z0 hg3
                go_wp2_with (at_builtin; refine Kd.R_append k50 (w0 := w1) w1.heap.size rfl (.tmp 84) (.tmp 88) 41 50 (.agg #[(.int .i64 0), (.int .i64 0)]) 16 rfl Tryz.underlying41 info50 rfl (by decide) (by omega) (.slice (some ⟨g1, 0, none⟩) o.length cap) o ⟨x, 1099511627776⟩ [.int .i64 x, .int .i64 1099511627776] (fun _ => True) (fun _ => False) rfl rfl (k50_mkM _ _ _ ⟨x, 1099511627776⟩) (fun _ hk => hk.elim) (fun _ _ => trivial) ?aO ?aB ?aS ?aL ?_; (case aO => exact HO1_.out); (case aB => exact HB_.out); (case aS => exact (below_size HB_.out)); (case aL => exact (by omega)); intro v1 w1 ho hb hg hat; skip)
                exact ⟨⟨j, 1099511627776, _, rfl, rfl, rfl, rfl, ⟨by have h := HSN.out; rw [hj.out, if_neg hq] at h; exact h⟩, ⟨ho⟩, ⟨hb⟩⟩, by simp [intOf]; omega⟩
            · obtain rfl : o = [] := List.eq_nil_of_length_eq_zero (by omega)
              obtain ⟨A5, c5, rfl⟩ := Kd.R_slice HO1_.out
              go_wp2_with (at_builtin; refine Kd.R_append k50 (w0 := w1) w1.heap.size rfl (.tmp 84) (.tmp 88) 41 50 (.agg #[(.int .i64 0), (.int .i64 0)]) 16 rfl Tryz.underlying41 info50 rfl (by decide) (by omega) (.slice A5 ([] : List S50).length c5) ([] : List S50) ⟨x, 1099511627776⟩ [.int .i64 x, .int .i64 1099511627776] (fun _ => True) (fun _ => False) rfl rfl (k50_mkM _ _ _ ⟨x, 1099511627776⟩) (fun _ hk => hk.elim) (fun _ _ => trivial) ?aO ?aB ?aS ?aL ?_; (case aO => exact HO1_.out); (case aB => exact HB_.out); (case aS => exact (below_size HB_.out)); (case aL => exact (by simp)); intro v1 w1 ho hb hg hat; skip)
              exact ⟨⟨j, 1099511627776, _, rfl, rfl, rfl, rfl, ⟨HSN.out⟩, ⟨ho⟩, ⟨hb⟩⟩, by simp [intOf]; omega⟩
          · rw [if_neg hkeep] at HSN
            go_wp2
            exact ⟨⟨j, 1099511627776, o, rfl, rfl, rfl, rfl, ⟨HSN.out⟩, HO1_, HB_⟩, by simp [intOf]; omega⟩
    · obtain rfl : x = 1099511627776 := by omega
      go_wp2
      go_ret
      obtain ⟨h1, h2⟩ := SwI_end HI.out
      exact ⟨_, o, rfl, h1, h2, by omega, Kd.R_lower HO.out HB1.out.size, bthen HB1.out HB.out⟩
end Go.Proofs.YtiamihkfphmohaaGreatDoor.PA

namespace Go.Proofs.YtiamihkfphmohaaGreatDoor.PA
open Go.RowKit Go.Proofs.YtiamihkfphmohaaGreatDoorW.PrintWords Go.Proofs.YtiamihkfphmohaaGreatDoorW.PrintLast Go.Proofs.YtiamihkfphmohaaGreatDoorW.PrintMore
theorem C_nil {α : Type} (d : Kd α) (w : World) : d.C w none 0 [] := ⟨rfl, by decide, fun h => absurd h (Nat.lt_irrefl _)⟩

set_option maxHeartbeats 400000 in
theorem c180 (x y : Bool) (W : World) : Calls Tryz.prog 104 #[.bool x, .bool y] W fun e w' => e = .returned (.bool (x)) ∧ W = w' := by
  go_enter Tryz.func104, Tryz.ntmps104
  cases x <;> cases y <;> (go_wp2; go_ret; exact ⟨rfl, rfl⟩)

set_option maxHeartbeats 400000 in
theorem c172 (x y : Bool) (W : World) : Calls Tryz.prog 90 #[.bool x, .bool y] W fun e w' => e = .returned (.bool (x && y)) ∧ W = w' := by
  go_enter Tryz.func90, Tryz.ntmps90
  cases x <;> cases y <;> (go_wp2; go_ret; exact ⟨rfl, rfl⟩)

set_option maxHeartbeats 400000 in
theorem c184 (x y : Bool) (W : World) : Calls Tryz.prog 108 #[.bool x, .bool y] W fun e w' => e = .returned (.bool (x && !y)) ∧ W = w' := by
  go_enter Tryz.func108, Tryz.ntmps108
  cases x <;> cases y <;> (go_wp2; go_ret; exact ⟨rfl, rfl⟩)

set_option maxHeartbeats 400000 in
theorem c119 (A1 : Option Addr) (n1 c1 : Nat) (a : List S50) (w : World) (hr1 : k50.C w A1 n1 a) (ha : a.length ≤ 1000000) :
    Calls Tryz.prog 63 #[.slice A1 n1 c1] w (SpanRes (fun x _ => x) w a []) := by
  go_enter Tryz.func63, Tryz.ntmps63
  go_wp2_with fail
  refine (sweep (fun x _ => x) 104 (enters_of Tryz.func104 (by kernel_rfl) rfl) c180 _ _ _ a none 0 0 [] w hr1 (C_nil _ _) ha (by simp)).mono ?_
  rintro e w1 ⟨v, r, rfl, h1, h2, h3, h4, h5⟩
  go_wp2
  go_ret
  exact ⟨v, r, rfl, h1, h2, h3, h4, h5⟩

set_option maxHeartbeats 400000 in
theorem c110 (A1 : Option Addr) (n1 c1 : Nat) (a : List S50) (A2 : Option Addr) (n2 c2 : Nat) (b : List S50) (w : World) (hr1 : k50.C w A1 n1 a) (hr2 : k50.C w A2 n2 b) (ha : a.length ≤ 1000000) (hb : b.length ≤ 1000000) :
    Calls Tryz.prog 52 #[.slice A1 n1 c1, .slice A2 n2 c2] w (SpanRes (fun x y => x && y) w a b) := by
  go_enter Tryz.func52, Tryz.ntmps52
  go_wp2_with fail
  refine (sweep (fun x y => x && y) 90 (enters_of Tryz.func90 (by kernel_rfl) rfl) c172 _ _ _ a _ _ _ b w hr1 hr2 ha hb).mono ?_
  rintro e w1 ⟨v, r, rfl, h1, h2, h3, h4, h5⟩
  go_wp2
  go_ret
  exact ⟨v, r, rfl, h1, h2, h3, h4, h5⟩

set_option maxHeartbeats 400000 in
theorem c129 (A1 : Option Addr) (n1 c1 : Nat) (a : List S50) (A2 : Option Addr) (n2 c2 : Nat) (b : List S50) (w : World) (hr1 : k50.C w A1 n1 a) (hr2 : k50.C w A2 n2 b) (ha : a.length ≤ 1000000) (hb : b.length ≤ 1000000) :
    Calls Tryz.prog 74 #[.slice A1 n1 c1, .slice A2 n2 c2] w (SpanRes (fun x y => x && !y) w a b) := by
  go_enter Tryz.func74, Tryz.ntmps74
  go_wp2_with fail
  refine (sweep (fun x y => x && !y) 108 (enters_of Tryz.func108 (by kernel_rfl) rfl) c184 _ _ _ a _ _ _ b w hr1 hr2 ha hb).mono ?_
  rintro e w1 ⟨v, r, rfl, h1, h2, h3, h4, h5⟩
  go_wp2
  go_ret
  exact ⟨v, r, rfl, h1, h2, h3, h4, h5⟩
end Go.Proofs.YtiamihkfphmohaaGreatDoor.PA
