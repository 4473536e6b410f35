import Derived.Deep.RegionHeld3
import Derived.Lib.Hide
import Derived.WalkLawsBesides
import Derived.WalkSpells
import Derived.IntWalk
import Derived.ChangeArms
import Derived.DataReads
import Derived.Shelf.SlSortCmp.QuietGrown
import Derived.Deep.RegionHeld2
import Derived.Test.YtiamihkfphmohaaGreatDoorShelf
import Derived.Test.YtiamihkfphmohaaGreatDoorA3
set_option linter.unusedVariables false
set_option linter.unusedSimpArgs false

namespace Go.Proofs.YtiamihkfphmohaaGreatDoor.PA
open Go.RowKit Go.Proofs.YtiamihkfphmohaaGreatDoorW.PrintWords Go.Proofs.YtiamihkfphmohaaGreatDoorW.PrintLast Go.Proofs.YtiamihkfphmohaaGreatDoorW.PrintMore

def BoolRes (w : World) (e : Ending) (w' : World) : Prop := ∃ b : Bool, e = .returned (.bool b) ∧ Below w.heap.size w w'
def IntRes (w : World) (e : Ending) (w' : World) : Prop := ∃ n : Int, e = .returned (.int .i64 n) ∧ Below w.heap.size w w'
set_option maxHeartbeats 400000 in
theorem q160 (n : Int) (w : World) : Calls Tryz.prog 160 #[.int .i64 n] w (BoolRes w) := by
  go_enter Tryz.func160, Tryz.ntmps160
  go_wp2
  all_goals
    go_ret
    exact ⟨_, rfl, Below.refl _ _⟩
set_option maxHeartbeats 2000000 in
theorem q209 (n : Int) (w : World) : Calls Tryz.prog 209 #[.int .i64 n] w fun e w' => ∃ a b : Int, e = .returned (.tuple #[.int .i64 a, .int .i64 b]) ∧ b ≤ 1099511627776 ∧ (n = 22 → a = 3 ∧ b = 3) ∧ Below w.heap.size w w' := by
  go_enter Tryz.func209, Tryz.ntmps209
  go_wp2
  all_goals
    go_ret2
    exact ⟨_, _, rfl, by omega, by first | (intro h; subst h; simp_all; done) | (intro h; simp_all; done) | (intro h; simp_all; omega), Below.refl _ _⟩
def VOK (v : S82) : Prop := InR v ∧ v.f2.size ≤ 1000000000
set_option maxHeartbeats 600000 in
theorem q182 (s : ByteArray) (hs : s.size ≤ 9223372036854775807) (w : World) : Calls Tryz.prog 182 #[.string s] w (BoolRes w) := by
  go_enter Tryz.func182, Tryz.ntmps182
  go_wp2
  go_loopw [3] (fun i wr => ∃ k : Nat, i = .int .i64 k ∧ k ≤ s.size ∧ Aside0 (Below w.heap.size w wr)) (fun i _ => s.size - (intOf i).toNat)
  case atStart => exact ⟨0, rfl, Nat.zero_le _, ⟨Below.refl _ _⟩⟩
  case round =>
    obtain ⟨k, rfl, hk', HB⟩ := hrel
    by_cases h1 : k < s.size
    · have hk1 : (0 : Int) ≤ k := by omega
      have hk2 : (k : Int) < s.size := by omega
      go_wp2
      all_goals first
        | (go_ret; exact ⟨_, rfl, HB.out⟩)
        | exact ⟨⟨k + 1, by go_num, h1, HB⟩, by simp [intOf]; omega⟩
    · go_wp2
      go_ret
      exact ⟨_, rfl, HB.out⟩
end Go.Proofs.YtiamihkfphmohaaGreatDoor.PA

namespace Go.Proofs.YtiamihkfphmohaaGreatDoor.PA
open Go.RowKit Go.Proofs.YtiamihkfphmohaaGreatDoorW.PrintWords Go.Proofs.YtiamihkfphmohaaGreatDoorW.PrintLast Go.Proofs.YtiamihkfphmohaaGreatDoorW.PrintMore

def ValRes (v : S82) (w : World) (e : Ending) (w' : World) : Prop := ∃ r : Bool, e = .returned (.bool r) ∧ (r = true → VOK v) ∧ Below w.heap.size w w'
theorem val_mk {v : S82} {w w' : World} {e : Ending} {r : Bool} (he : e = .returned (.bool r)) (h : r = true → VOK v) (hb : Below w.heap.size w w') : ValRes v w e w' := ⟨r, he, h, hb⟩
theorem size_toList (s : ByteArray) : s.size = s.toList.length := by rw [Lib.toList_data, Array.length_toList]; rfl
theorem vok_of {a b : Int} {s : ByteArray} (ha : 0 ≤ a ∧ a ≤ 3) (hb : -1125899906842624 ≤ b ∧ b ≤ 1125899906842624) (hs : s.size ≤ 1000) : VOK ⟨a, b, s⟩ := by
  unfold VOK InR InI
  simp only
  omega
set_option maxHeartbeats 1000000 in
theorem q159 (a b : Int) (s : ByteArray) (hs : s.size ≤ 9223372036854775807) (w : World) : Calls Tryz.prog 159 #[.agg #[.int .i64 a, .int .i64 b, .string s]] w (ValRes ⟨a, b, s⟩ w) := by
  have HSZ := Lib.hid (size_toList s)
  go_enter Tryz.func159, Tryz.ntmps159
  go_wp2_with (go_at_call 182; refine (q182 s hs _).mono ?_; rintro e w1 ⟨bq, rfl, hb1⟩)
  all_goals
    go_ret
    refine val_mk rfl (fun hr => ?_) (by first | exact below_alloc (Below.refl _ _) _ | exact bel1 hb1)
    have hsz := HSZ.out
    first
      | (exfalso; revert hr; simp; done)
      | (refine vok_of ?_ ?_ ?_ <;> simp_all <;> first | omega | (rcases ‹_ ∨ _› with h | h <;> omega))
end Go.Proofs.YtiamihkfphmohaaGreatDoor.PA

namespace Go.Proofs.YtiamihkfphmohaaGreatDoor.PA
open Go.RowKit Go.Proofs.YtiamihkfphmohaaGreatDoorW.PrintWords Go.Proofs.YtiamihkfphmohaaGreatDoorW.PrintLast Go.Proofs.YtiamihkfphmohaaGreatDoorW.PrintMore

def ExRes (i n : Int) (w : World) (e : Ending) (w' : World) : Prop := ∃ r : Bool, e = .returned (.bool r) ∧ (r = true → 0 ≤ i ∧ i < n) ∧ Below w.heap.size w w'
theorem ex_mk {i n : Int} {w w' : World} {e : Ending} {r : Bool} (he : e = .returned (.bool r)) (h : r = true → 0 ≤ i ∧ i < n) (hb : Below w.heap.size w w') : ExRes i n w e w' := ⟨r, he, h, hb⟩
theorem bool_mk {w w' : World} {e : Ending} {r : Bool} (he : e = .returned (.bool r)) (hb : Below w.heap.size w w') : BoolRes w e w' := ⟨r, he, hb⟩
theorem int_mk {w w' : World} {e : Ending} {r : Int} (he : e = .returned (.int .i64 r)) (hb : Below w.heap.size w w') : IntRes w e w' := ⟨r, he, hb⟩
set_option maxHeartbeats 400000 in
theorem q156 (nm : ByteArray) (v2 v3 v4 : Value) (A : Option Addr) (n c : Nat) (i : Int) (w : World) : Calls Tryz.prog 156 #[.agg #[.string nm, .slice A n c, v2, v3, v4], .int .i64 i] w (ExRes i n w) := by
  go_enter Tryz.func156, Tryz.ntmps156
  go_wp2
  all_goals
    go_ret
    refine ex_mk rfl (fun hr => ?_) (below_alloc (Below.refl _ _) _)
    first
      | (exfalso; revert hr; simp; done)
      | (simp_all; done)
      | (simp_all; omega)
def isStr : Value → Bool | .string _ => true | _ => false
theorem isStr_of {v : Value} (h : isStr v = true) : ∃ s, v = .string s := by
  cases v <;> simp_all [isStr]
/-- A slice of strings in block g. -/
def StrBlk (W : World) (g n : Nat) : Prop := ∃ cs : Array Value, W.heap[g]? = some (.cells cs 9 (0, 0)) ∧ cs.size = n ∧ cs.toList.all isStr = true
theorem StrBlk.at {W : World} {g n : Nat} (h : StrBlk W g n) (i : Nat) (hi : i < n) : ∃ s, W.cell? ((⟨g, 0, none⟩ : Addr).add i) = some (.string s) := by
  obtain ⟨cs, hb, hs, ha⟩ := h
  have hm : cs[i]'(by omega) ∈ cs.toList := by rw [← Array.getElem_toList]; exact List.getElem_mem _
  have := (List.all_eq_true.1 ha) _ hm
  obtain ⟨s, hs⟩ := isStr_of this
  refine ⟨s, ?_⟩
  rw [add_plain, blk_cell hb, Array.getElem?_eq_getElem (by omega), hs]
theorem StrBlk.below {W W' : World} {g n : Nat} (h : StrBlk W g n) (hb : Below W.heap.size W W') : StrBlk W' g n := by
  obtain ⟨cs, h1, h2⟩ := h
  exact ⟨cs, blk_below h1 hb, h2⟩
set_option maxHeartbeats 1000000 in
set_option maxRecDepth 100000 in
theorem q154 (w : World) : Calls Tryz.prog 154 #[] w fun e w' => ∃ g, e = .returned (.slice (some ⟨g, 0, none⟩) 87 87) ∧ StrBlk w' g 87 ∧ Below w.heap.size w w' := by
  go_enter Tryz.func154, Tryz.ntmps154
  go_wp2
  go_ret
  exact ⟨_, rfl, ⟨_, blk_new _ _, rfl, rfl⟩, below_alloc (Below.refl _ _) _⟩
set_option maxHeartbeats 600000 in
theorem q153 (g n c : Nat) (s : ByteArray) (w : World) (hr : StrBlk w g n) (hn : n ≤ 1000000) : Calls Tryz.prog 153 #[.slice (some ⟨g, 0, none⟩) n c, .string s] w (BoolRes w) := by
  have HR := Aside0.mk hr
  clear hr
  go_enter Tryz.func153, Tryz.ntmps153
  go_wp2
  go_loopw [5] (fun i wr => ∃ k : Nat, i = .int .i64 k ∧ k ≤ n ∧ Aside0 (Below w.heap.size w wr)) (fun i _ => n - (intOf i).toNat)
  case atStart => exact ⟨0, rfl, Nat.zero_le _, ⟨Below.refl _ _⟩⟩
  case round =>
    obtain ⟨k, rfl, hk', HB⟩ := hrel
    by_cases h1 : k < n
    · have hk1 : (0 : Int) ≤ k := by omega
      have hk2 : (k : Int) < n := by omega
      obtain ⟨t, x0⟩ := HR.out.at k h1
      replace x0 := pw_cell_below HB.out x0
      generalize (⟨g, 0, none⟩ : Addr) = ad at *
      go_wp2
      all_goals first
        | (go_ret; exact bool_mk rfl HB.out)
        | exact ⟨⟨k + 1, by go_num, h1, HB⟩, by simp [intOf]; omega⟩
    · go_wp2
      go_ret
      exact bool_mk rfl HB.out
set_option maxHeartbeats 1000000 in
theorem q120 (s : ByteArray) (hs : s.size ≤ 9223372036854775807) (w : World) : Calls Tryz.prog 120 #[.string s] w (BoolRes w) := by
  have HSZ := Lib.hid (size_toList s)
  go_enter Tryz.func120, Tryz.ntmps120
  by_cases h0 : s.toList = []
  · go_wp2
    go_ret
    exact bool_mk rfl (Below.refl _ _)
  · have hlt : (0 : Int) < s.size := by
      have := HSZ.out
      cases hq : s.toList with
      | nil => exact absurd hq h0
      | cons a l => rw [hq] at this; simp at this; omega
    have hie : s.toList.isEmpty = false := by
      cases hq : s.toList with
      | nil => exact absurd hq h0
      | cons a l => rfl
    clear h0
    go_wp2
    all_goals first
      | (go_ret; exact bool_mk rfl (Below.refl _ _))
      | skip
    all_goals
      go_loopw [3, 4] (fun i cc wr => ∃ k : Nat, i = .int .i64 k ∧ k ≤ s.size ∧ Aside0 (Below w.heap.size w wr)) (fun i _ _ => s.size - (intOf i).toNat)
      case atStart => exact ⟨0, rfl, Nat.zero_le _, ⟨Below.refl _ _⟩⟩
      case round =>
        obtain ⟨k, rfl, hk', HB⟩ := hrel
        by_cases h1 : k < s.size
        · have hk1 : (0 : Int) ≤ k := by omega
          have hk2 : (k : Int) < s.size := by omega
          go_wp2
          all_goals first
            | (go_ret; exact bool_mk rfl HB.out)
            | exact ⟨⟨k + 1, by go_num, h1, HB⟩, by simp [intOf]; omega⟩
            | exact ⟨⟨k + 1, by omega, h1⟩, by simp [intOf]; omega⟩
        · go_wp2_with (first | (go_at_call 154; refine (q154 _).mono ?_; rintro e w1 ⟨g, rfl, hsb, hb1⟩) | (go_at_call 153; refine (q153 g 87 87 s _ hsb (by omega)).mono ?_; rintro e w2 ⟨bq, rfl, hb2⟩))
          go_ret
          exact bool_mk rfl (bthen (bthen HB.out hb1) hb2)
end Go.Proofs.YtiamihkfphmohaaGreatDoor.PA

namespace Go.Proofs.YtiamihkfphmohaaGreatDoor.PA
open Go.RowKit Go.Proofs.YtiamihkfphmohaaGreatDoorW.PrintWords Go.Proofs.YtiamihkfphmohaaGreatDoorW.PrintLast Go.Proofs.YtiamihkfphmohaaGreatDoorW.PrintMore

/-! ### What the arguments read as, opened into kinds -/
section
variable {H : Type} {enc : TypeId × Value → H} {w : World} {base : Nat} {sp : Nat → Bool} {hd : Bool} {n : Nat} {t : TypeId} {cs : List Value}
/-- The cells read as a value of type t. -/
def Rd (enc : TypeId × Value → H) (w : World) (base : Nat) (sp : Nat → Bool) (hd : Bool) (n : Nat) (t : TypeId) (cs : List Value) : Prop := ∃ x, DataW.trod enc Tryz.prog w base sp hd n t cs = some x
theorem rd_int (h : Rd enc w base sp hd n 3 cs) : ∃ k, cs = [.int .i64 k] ∧ InI k := by
  obtain ⟨x, h⟩ := h
  obtain ⟨k, rfl, _, hw⟩ := DataW.trod_int Tryz.underlying3 h
  refine ⟨k, rfl, ?_⟩
  unfold InI
  simp [Lit.wf] at hw
  have h1 : IntKind.i64.min = -9223372036854775808 := rfl
  have h2 : IntKind.i64.max = 9223372036854775807 := rfl
  omega
theorem rd_str (h : Rd enc w base sp hd n 9 cs) : ∃ s, cs = [.string s] ∧ s.size ≤ maxLen := by
  obtain ⟨x, h⟩ := h
  obtain ⟨s, rfl, _, hs⟩ := DataW.trod_string Tryz.underlying9 h
  exact ⟨s, rfl, hs⟩
theorem rd_bool (h : Rd enc w base sp hd n 4 cs) : ∃ b, cs = [.bool b] := by
  obtain ⟨x, h⟩ := h
  obtain ⟨b, rfl, _⟩ := DataW.trod_bool Tryz.underlying4 h
  exact ⟨b, rfl⟩
theorem rd_struct {fs : Array Field} (ht : Tryz.prog.underlying t = some (.struct fs)) (h : Rd enc w base sp hd n t cs) :
    ∃ m, n = m + 1 ∧ cs.length = Tryz.prog.cellsOf t ∧ ∀ (i : Nat) (f : Field), fs[i]? = some f → Rd enc w base sp hd m f.type ((cs.drop f.offset).take (Tryz.prog.cellsOf f.type)) := by
  obtain ⟨x, h⟩ := h
  obtain ⟨xs, m, e, _, hl, hx, hf⟩ := DataW.trod_struct ht h
  refine ⟨m, e, hl, fun i f hi => ?_⟩
  have := hf i f hi
  have hil : i < xs.length := by rw [hx]; exact (Array.getElem?_eq_some_iff.1 hi).1
  rw [List.getElem?_eq_getElem hil] at this
  exact ⟨_, this⟩
theorem rd_slice {α : Type} {d : Kd α} {e : TypeId} {ok : α → Prop} (ht : Tryz.prog.underlying t = some (.slice e)) (hc : Tryz.prog.cellsOf e = d.sz)
    (he : ∀ m, m < n → ∀ cs, Rd enc w base sp hd m e cs → ∃ a, d.K w a cs ∧ ok a) (h : Rd enc w base sp hd n t cs) :
    ∃ (A : Option Addr) (l : List α) (c : Nat), cs = [.slice A l.length c] ∧ l.length ≤ c ∧ d.C w A l.length l ∧ l.length ≤ maxLen ∧ ∀ x ∈ l, ok x := by
  obtain ⟨x, h⟩ := h
  rcases DataW.trod_slice ht h with ⟨rfl, _⟩ | ⟨a, len, cap, elems, rest, m, rfl, rfl, _, hb, hl1, hl2, hel, hcell, _, _⟩
  · exact ⟨none, [], 0, rfl, Nat.le_refl _, Kd.C_nil _ _, Nat.zero_le _, by simp⟩
  · have key : ∀ i : Fin len, ∃ a' : α, ok a' ∧ ∃ c, c.length = d.sz ∧ d.K w a' c ∧ ∀ k u, c[k]? = some u → w.cell? (a.add (i.1 * d.sz + k)) = some u := by
      intro i
      have h1 := hcell i.1 i.2
      rw [List.getElem?_eq_getElem (by rw [hel]; exact i.2)] at h1
      obtain ⟨c, hcs, htr⟩ := Option.bind_eq_some_iff.1 h1
      obtain ⟨_, hlen, hcc⟩ := World.cells?_some hcs
      obtain ⟨a', hk, hok⟩ := he m (Nat.lt_succ_self _) c ⟨_, htr⟩
      refine ⟨a', hok, c, by rw [hlen, hc], hk, fun k u hu => ?_⟩
      have hkl : k < d.sz := by
        have := (List.getElem?_eq_some_iff.1 hu).1
        omega
      have h2 := hcc k (by omega)
      rw [add_add, hc] at h2
      rw [h2]
      exact hu
    refine ⟨some a, List.ofFn (fun i : Fin len => Classical.choose (key i)), cap, by simp, by simpa using hl1, ⟨rfl, by simp [maxLen] at hl2 ⊢; omega, fun _ => ⟨a, rfl, fun j p hj => ?_⟩⟩, by simp; omega, fun x hx => ?_⟩
    · obtain ⟨hjl, hjp⟩ := List.getElem?_eq_some_iff.1 hj
      have hjl' : j < len := by simpa using hjl
      simp only [List.getElem_ofFn] at hjp
      subst hjp
      obtain ⟨_, c, h1, h2, h3⟩ := Classical.choose_spec (key ⟨j, hjl'⟩)
      exact ⟨c, h1, h2, h3⟩
    · obtain ⟨i, rfl⟩ := List.mem_ofFn.1 hx
      exact (Classical.choose_spec (key i)).1
theorem list3 {l : List Value} (h : l.length = 3) : ∃ a b c, l = [a, b, c] := by
  match l, h with
  | [a, b, c], _ => exact ⟨a, b, c, rfl⟩
theorem list2 {l : List Value} (h : l.length = 2) : ∃ a b, l = [a, b] := by
  match l, h with
  | [a, b], _ => exact ⟨a, b, rfl⟩
theorem list5 {l : List Value} (h : l.length = 5) : ∃ a b c d e, l = [a, b, c, d, e] := by
  match l, h with
  | [a, b, c, d, e], _ => exact ⟨a, b, c, d, e, rfl⟩
theorem list7 {l : List Value} (h : l.length = 7) : ∃ a b c d e f g, l = [a, b, c, d, e, f, g] := by
  match l, h with
  | [a, b, c, d, e, f, g], _ => exact ⟨a, b, c, d, e, f, g, rfl⟩
theorem co3 : Tryz.prog.cellsOf 3 = 1 := by kernel_rfl
theorem co4 : Tryz.prog.cellsOf 4 = 1 := by kernel_rfl
theorem co9 : Tryz.prog.cellsOf 9 = 1 := by kernel_rfl
theorem co22 : Tryz.prog.cellsOf 22 = 1 := by kernel_rfl
theorem co23 : Tryz.prog.cellsOf 23 = 1 := by kernel_rfl
theorem co24 : Tryz.prog.cellsOf 24 = 1 := by kernel_rfl
theorem co25 : Tryz.prog.cellsOf 25 = 1 := by kernel_rfl
theorem co27 : Tryz.prog.cellsOf 27 = 5 := by kernel_rfl
theorem co34 : Tryz.prog.cellsOf 34 = 1 := by kernel_rfl
theorem co50 : Tryz.prog.cellsOf 50 = 2 := by kernel_rfl
theorem co58 : Tryz.prog.cellsOf 58 = 3 := by kernel_rfl
theorem co64 : Tryz.prog.cellsOf 64 = 2 := by kernel_rfl
theorem co80 : Tryz.prog.cellsOf 80 = 3 := by kernel_rfl
theorem co82 : Tryz.prog.cellsOf 82 = 3 := by kernel_rfl
theorem co191 : Tryz.prog.cellsOf 191 = 7 := by kernel_rfl
/-- Numbers and texts of a value, as they came. -/
def VIn (v : S82) : Prop := InR v ∧ v.f2.size ≤ maxLen
theorem rd_82 (h : Rd enc w base sp hd n 82 cs) : ∃ v : S82, k82.K w v cs ∧ VIn v := by
  obtain ⟨m, rfl, hl, hf⟩ := rd_struct Tryz.underlying82 h
  rw [co82] at hl
  obtain ⟨a, b, c, rfl⟩ := list3 hl
  have h0 := hf 0 { name := "Kind", type := 3, offset := 0, embedded := false, tag := "", pkgPath := "", byteOffset := 0 } rfl
  have h1 := hf 1 { name := "Int", type := 3, offset := 1, embedded := false, tag := "", pkgPath := "", byteOffset := 8 } rfl
  have h2 := hf 2 { name := "Text", type := 9, offset := 2, embedded := false, tag := "", pkgPath := "", byteOffset := 16 } rfl
  simp only [co3, co9, List.drop_zero, List.drop_succ_cons, List.take_succ_cons, List.take_zero] at h0 h1 h2
  obtain ⟨x, e0, i0⟩ := rd_int h0
  obtain ⟨y, e1, i1⟩ := rd_int h1
  obtain ⟨s, e2, i2⟩ := rd_str h2
  injection e0 with e0; injection e1 with e1; injection e2 with e2
  subst e0 e1 e2
  exact ⟨⟨x, y, s⟩, k82_mk _ _, ⟨i0, i1⟩, i2⟩
theorem rd_50 (h : Rd enc w base sp hd n 50 cs) : ∃ v : S50, k50.K w v cs ∧ InI v.f0 ∧ InI v.f1 := by
  obtain ⟨m, rfl, hl, hf⟩ := rd_struct Tryz.underlying50 h
  rw [co50] at hl
  obtain ⟨a, b, rfl⟩ := list2 hl
  have h0 := hf 0 { name := "From", type := 3, offset := 0, embedded := false, tag := "", pkgPath := "", byteOffset := 0 } rfl
  have h1 := hf 1 { name := "To", type := 3, offset := 1, embedded := false, tag := "", pkgPath := "", byteOffset := 8 } rfl
  simp only [co3, List.drop_zero, List.drop_succ_cons, List.take_succ_cons, List.take_zero] at h0 h1
  obtain ⟨x, e0, i0⟩ := rd_int h0
  obtain ⟨y, e1, i1⟩ := rd_int h1
  injection e0 with e0; injection e1 with e1
  subst e0 e1
  exact ⟨⟨x, y⟩, k50_mk _ _, i0, i1⟩
/-- A fact, as it came. -/
def FIn (x : S58) : Prop := x.f0.length ≤ maxLen ∧ (∀ v ∈ x.f0, VIn v) ∧ InI x.f1.f0 ∧ InI x.f1.f1
theorem rd_58 (h : Rd enc w base sp hd n 58 cs) : ∃ v : S58, k58.K w v cs ∧ FIn v := by
  obtain ⟨m, rfl, hl, hf⟩ := rd_struct Tryz.underlying58 h
  rw [co58] at hl
  obtain ⟨a, b, c, rfl⟩ := list3 hl
  have h0 := hf 0 { name := "Row", type := 34, offset := 0, embedded := false, tag := "", pkgPath := "", byteOffset := 0 } rfl
  have h1 := hf 1 { name := "Valid", type := 50, offset := 1, embedded := false, tag := "", pkgPath := "", byteOffset := 24 } rfl
  simp only [co34, co50, List.drop_zero, List.drop_succ_cons, List.take_succ_cons, List.take_zero] at h0 h1
  obtain ⟨A, l, c', e0, hlc, hC, hlm, hok⟩ := rd_slice (d := k82) (ok := VIn) Tryz.underlying34 co82 (fun m' _ cs' h' => rd_82 h') h0
  obtain ⟨p, hp, i0, i1⟩ := rd_50 h1
  have hp := k50_open hp
  injection e0 with e0
  subst e0
  rw [hp]
  exact ⟨⟨l, p⟩, k58_mk w ⟨l, p⟩ hlc hC, hlm, hok, i0, i1⟩
def CIn (x : S80) : Prop := x.f0.size ≤ maxLen ∧ InI x.f1
theorem rd_80 (h : Rd enc w base sp hd n 80 cs) : ∃ v : S80, k80.K w v cs ∧ CIn v := by
  obtain ⟨m, rfl, hl, hf⟩ := rd_struct Tryz.underlying80 h
  rw [co80] at hl
  obtain ⟨a, b, c, rfl⟩ := list3 hl
  have h0 := hf 0 { name := "Name", type := 9, offset := 0, embedded := false, tag := "", pkgPath := "", byteOffset := 0 } rfl
  have h1 := hf 1 { name := "Kind", type := 3, offset := 1, embedded := false, tag := "", pkgPath := "", byteOffset := 16 } rfl
  have h2 := hf 2 { name := "Nullable", type := 4, offset := 2, embedded := false, tag := "", pkgPath := "", byteOffset := 24 } rfl
  simp only [co3, co4, co9, List.drop_zero, List.drop_succ_cons, List.take_succ_cons, List.take_zero] at h0 h1 h2
  obtain ⟨s, e0, i0⟩ := rd_str h0
  obtain ⟨y, e1, i1⟩ := rd_int h1
  obtain ⟨z, e2⟩ := rd_bool h2
  injection e0 with e0; injection e1 with e1; injection e2 with e2
  subst e0 e1 e2
  exact ⟨⟨s, y, z⟩, k80_mk _ _, i0, i1⟩
theorem rd_ints (h : Rd enc w base sp hd n 23 cs) : ∃ (A : Option Addr) (l : List Int) (c : Nat), cs = [.slice A l.length c] ∧ l.length ≤ c ∧ (Kd.int .i64).C w A l.length l ∧ l.length ≤ maxLen ∧ ∀ x ∈ l, InI x :=
  rd_slice (d := Kd.int .i64) (ok := InI) Tryz.underlying23 co3 (fun m' _ cs' h' => by
    obtain ⟨k, e, hk⟩ := rd_int h'
    exact ⟨k, e, hk⟩) h
def OIn (x : S64) : Prop := x.f0.length ≤ maxLen ∧ (∀ i ∈ x.f0, InI i) ∧ x.f1.size ≤ maxLen
theorem rd_64 (h : Rd enc w base sp hd n 64 cs) : ∃ v : S64, k64.K w v cs ∧ OIn v := by
  obtain ⟨m, rfl, hl, hf⟩ := rd_struct Tryz.underlying64 h
  rw [co64] at hl
  obtain ⟨a, b, rfl⟩ := list2 hl
  have h0 := hf 0 { name := "Columns", type := 23, offset := 0, embedded := false, tag := "", pkgPath := "", byteOffset := 0 } rfl
  have h1 := hf 1 { name := "Table", type := 9, offset := 1, embedded := false, tag := "", pkgPath := "", byteOffset := 24 } rfl
  simp only [co23, co9, List.drop_zero, List.drop_succ_cons, List.take_succ_cons, List.take_zero] at h0 h1
  obtain ⟨A, l, c', e0, hlc, hC, hlm, hok⟩ := rd_ints h0
  obtain ⟨s, e1, i1⟩ := rd_str h1
  injection e0 with e0; injection e1 with e1
  subst e0 e1
  exact ⟨⟨l, s⟩, k64_mk w ⟨l, s⟩ hlc hC, hlm, hok, i1⟩
/-- An expression, as it came. -/
inductive EIn : S191 → Prop
  | mk (x : S191) (h0 : InI x.f0) (h1 : InI x.f1) (h2 : VIn x.f2) (h3 : x.f3.size ≤ maxLen) (h4 : x.f4.length ≤ maxLen) (h5 : ∀ y ∈ x.f4, EIn y) : EIn x
theorem rd_191 : ∀ (n : Nat) (cs : List Value), Rd enc w base sp hd n 191 cs → ∃ v : S191, k191.K w v cs ∧ EIn v := by
  intro n
  induction n using Nat.strongRecOn with
  | _ n ih =>
    intro cs h
    obtain ⟨m, rfl, hl, hf⟩ := rd_struct Tryz.underlying191 h
    rw [co191] at hl
    obtain ⟨a, b, c, d, e, f, g, rfl⟩ := list7 hl
    have h0 := hf 0 { name := "Op", type := 3, offset := 0, embedded := false, tag := "", pkgPath := "", byteOffset := 0 } rfl
    have h1 := hf 1 { name := "Int", type := 3, offset := 1, embedded := false, tag := "", pkgPath := "", byteOffset := 8 } rfl
    have h2 := hf 2 { name := "Value", type := 82, offset := 2, embedded := false, tag := "", pkgPath := "", byteOffset := 16 } rfl
    have h3 := hf 3 { name := "Name", type := 9, offset := 5, embedded := false, tag := "", pkgPath := "", byteOffset := 48 } rfl
    have h4 := hf 4 { name := "Args", type := 25, offset := 6, embedded := false, tag := "", pkgPath := "", byteOffset := 64 } rfl
    simp only [co3, co9, co82, co25, List.drop_zero, List.drop_succ_cons, List.take_succ_cons, List.take_zero] at h0 h1 h2 h3 h4
    obtain ⟨x, e0, i0⟩ := rd_int h0
    obtain ⟨y, e1, i1⟩ := rd_int h1
    obtain ⟨v, e2, i2⟩ := rd_82 h2
    obtain ⟨s, e3, i3⟩ := rd_str h3
    obtain ⟨A, l, c', e4, hlc, hC, hlm, hok⟩ := rd_slice (d := k191) (ok := EIn) Tryz.underlying25 co191 (fun m' hm' cs' h' => ih m' (by omega) cs' h') h4
    have e2 := k82_open e2
    injection e0 with e0; injection e1 with e1; injection e3 with e3; injection e4 with e4
    subst e0 e1 e3 e4
    injection e2 with q0 e2; injection e2 with q1 e2; injection e2 with q2 e2
    subst q0 q1 q2
    exact ⟨⟨x, y, v, s, l⟩, k191_mk w ⟨x, y, v, s, l⟩ hlc hC, .mk _ i0 i1 i2 i3 hlm hok⟩
/-- The fields of a table, as they came. -/
structure Tbl where
  nm : ByteArray
  cols : List S80
  key : List Int
  fors : List S64
  chks : List S191
structure TIn (t : Tbl) : Prop where
  nm : t.nm.size ≤ maxLen
  cols : ∀ x ∈ t.cols, CIn x
  colsl : t.cols.length ≤ maxLen
  keyl : t.key.length ≤ maxLen
  key : ∀ x ∈ t.key, InI x
  fors : ∀ x ∈ t.fors, OIn x
  forsl : t.fors.length ≤ maxLen
  chks : ∀ x ∈ t.chks, EIn x
  chksl : t.chks.length ≤ maxLen
/-- The table's cells. -/
structure TK (w : World) (t : Tbl) (A1 A2 A3 A4 : Option Addr) (c1 c2 c3 c4 : Nat) : Prop where
  cols : k80.C w A1 t.cols.length t.cols
  key : (Kd.int .i64).C w A2 t.key.length t.key
  fors : k64.C w A3 t.fors.length t.fors
  chks : k191.C w A4 t.chks.length t.chks
theorem TK.below {w w' : World} {t : Tbl} {A1 A2 A3 A4 : Option Addr} {c1 c2 c3 c4 : Nat} (h : TK w t A1 A2 A3 A4 c1 c2 c3 c4) (hb : Below w.heap.size w w') : TK w' t A1 A2 A3 A4 c1 c2 c3 c4 :=
  ⟨Kd.C_below h.cols hb, Kd.C_below h.key hb, Kd.C_below h.fors hb, Kd.C_below h.chks hb⟩
theorem rd_27 (h : Rd enc w base sp hd n 27 cs) : ∃ (t : Tbl) (A1 A2 A3 A4 : Option Addr) (c1 c2 c3 c4 : Nat), cs = [.string t.nm, .slice A1 t.cols.length c1, .slice A2 t.key.length c2, .slice A3 t.fors.length c3, .slice A4 t.chks.length c4] ∧ TK w t A1 A2 A3 A4 c1 c2 c3 c4 ∧ TIn t := by
  obtain ⟨m, rfl, hl, hf⟩ := rd_struct Tryz.underlying27 h
  rw [co27] at hl
  obtain ⟨a, b, c, d, e, rfl⟩ := list5 hl
  have h0 := hf 0 { name := "Name", type := 9, offset := 0, embedded := false, tag := "", pkgPath := "", byteOffset := 0 } rfl
  have h1 := hf 1 { name := "Columns", type := 22, offset := 1, embedded := false, tag := "", pkgPath := "", byteOffset := 16 } rfl
  have h2 := hf 2 { name := "Key", type := 23, offset := 2, embedded := false, tag := "", pkgPath := "", byteOffset := 40 } rfl
  have h3 := hf 3 { name := "Foreigns", type := 24, offset := 3, embedded := false, tag := "", pkgPath := "", byteOffset := 64 } rfl
  have h4 := hf 4 { name := "Checks", type := 25, offset := 4, embedded := false, tag := "", pkgPath := "", byteOffset := 88 } rfl
  simp only [co9, co22, co23, co24, co25, List.drop_zero, List.drop_succ_cons, List.take_succ_cons, List.take_zero] at h0 h1 h2 h3 h4
  obtain ⟨s, e0, i0⟩ := rd_str h0
  obtain ⟨A1, l1, c1, e1, _, hC1, hl1, hk1⟩ := rd_slice (d := k80) (ok := CIn) Tryz.underlying22 co80 (fun m' _ cs' h' => rd_80 h') h1
  obtain ⟨A2, l2, c2, e2, _, hC2, hl2, hk2⟩ := rd_ints h2
  obtain ⟨A3, l3, c3, e3, _, hC3, hl3, hk3⟩ := rd_slice (d := k64) (ok := OIn) Tryz.underlying24 co64 (fun m' _ cs' h' => rd_64 h') h3
  obtain ⟨A4, l4, c4, e4, _, hC4, hl4, hk4⟩ := rd_slice (d := k191) (ok := EIn) Tryz.underlying25 co191 (fun m' _ cs' h' => rd_191 m' cs' h') h4
  injection e0 with e0; injection e1 with e1; injection e2 with e2; injection e3 with e3; injection e4 with e4
  subst e0 e1 e2 e3 e4
  exact ⟨⟨s, l1, l2, l3, l4⟩, A1, A2, A3, A4, c1, c2, c3, c4, rfl, ⟨hC1, hC2, hC3, hC4⟩, ⟨i0, hk1, hl1, hl2, hk2, hk3, hl3, hk4, hl4⟩⟩
end
end Go.Proofs.YtiamihkfphmohaaGreatDoor.PA

namespace Go.Proofs.YtiamihkfphmohaaGreatDoor.PA
open Go.RowKit Go.Proofs.YtiamihkfphmohaaGreatDoorW.PrintWords Go.Proofs.YtiamihkfphmohaaGreatDoorW.PrintLast Go.Proofs.YtiamihkfphmohaaGreatDoorW.PrintMore

theorem maxl : maxLen = 9223372036854775807 := rfl
set_option maxHeartbeats 600000 in
theorem q155 (t : Tbl) (A1 A2 A3 A4 : Option Addr) (c1 c2 c3 c4 : Nat) (s : ByteArray) (w : World) (hT : TK w t A1 A2 A3 A4 c1 c2 c3 c4) (hI : TIn t) : Calls Tryz.prog 155 #[.agg #[.string t.nm, .slice A1 t.cols.length c1, .slice A2 t.key.length c2, .slice A3 t.fors.length c3, .slice A4 t.chks.length c4], .string s] w (IntRes w) := by
  go_enter Tryz.func155, Tryz.ntmps155
  have hb0 : Below w.heap.size w (w.alloc (.cells #[.string t.nm, .slice A1 t.cols.length c1, .slice A2 t.key.length c2, .slice A3 t.fors.length c3, .slice A4 t.chks.length c4] 27)) := below_alloc (Below.refl _ _) _
  have hbx : (w.alloc (.cells #[.string t.nm, .slice A1 t.cols.length c1, .slice A2 t.key.length c2, .slice A3 t.fors.length c3, .slice A4 t.chks.length c4] 27)).heap[w.heap.size]? = some (.cells #[.string t.nm, .slice A1 t.cols.length c1, .slice A2 t.key.length c2, .slice A3 t.fors.length c3, .slice A4 t.chks.length c4] 27 (0, 0)) := blk_new _ _
  have HB := Aside0.mk hb0
  have HX := Aside0.mk hbx
  have HK := Aside0.mk (hT.below hb0)
  have HI := Lib.hid hI
  clear hb0 hbx hT hI
  go_wp2
  generalize w.alloc (.cells #[.string t.nm, .slice A1 t.cols.length c1, .slice A2 t.key.length c2, .slice A3 t.fors.length c3, .slice A4 t.chks.length c4] 27) = W0 at *
  have t1 : (W0).cell? ⟨w.heap.size, 1, none⟩ = some (.slice A1 t.cols.length c1) := by rw [blk_cell HX.out]; rfl
  have tl := World.block_lt_of_cell? _ _ t1
  go_loopw [5] (fun i wr => ∃ k : Nat, i = .int .i64 k ∧ k ≤ t.cols.length ∧ wr = W0) (fun i _ => t.cols.length - (intOf i).toNat)
  case atStart => exact ⟨0, rfl, Nat.zero_le _, rfl⟩
  case round =>
    obtain ⟨k, rfl, hk', rfl⟩ := hrel
    have hml := HI.out.colsl
    rw [maxl] at hml
    by_cases h1 : k < t.cols.length
    · have hk1 : (0 : Int) ≤ k := by omega
      have hk2 : (k : Int) < t.cols.length := by omega
      obtain ⟨xa, rfl, x0, x1, x2⟩ := at_T80 HK.out.cols k (by omega) (by omega)
      rw [Int.toNat_natCast] at x0
      go_wp2
      all_goals first
        | (go_ret; exact int_mk rfl HB.out)
        | exact ⟨⟨k + 1, by go_num, h1, rfl⟩, by simp [intOf]; omega⟩
        | exact ⟨⟨k + 1, by go_num, h1, trivial⟩, by simp [intOf]; omega⟩
    · go_wp2
      go_ret
      exact int_mk rfl HB.out
set_option maxHeartbeats 1000000 in
theorem q121 (t : Tbl) (A1 A2 A3 A4 : Option Addr) (c1 c2 c3 c4 : Nat) (w : World) (hT : TK w t A1 A2 A3 A4 c1 c2 c3 c4) (hI : TIn t) : Calls Tryz.prog 121 #[.agg #[.string t.nm, .slice A1 t.cols.length c1, .slice A2 t.key.length c2, .slice A3 t.fors.length c3, .slice A4 t.chks.length c4]] w (IntRes w) := by
  go_enter Tryz.func121, Tryz.ntmps121
  have hml := hI.colsl
  rw [maxl] at hml
  have hTK := hT
  by_cases hz : t.cols.length = 0
  · have hz0 : (t.cols.length : Int) < 1 := by omega
    go_wp2
    go_ret
    exact int_mk rfl (below_alloc (Below.refl _ _) _)
  by_cases hz1 : 12 < t.cols.length
  · have hz0 : ¬ (t.cols.length : Int) < 1 := by omega
    have hz2 : (12 : Int) < t.cols.length := by omega
    go_wp2
    go_ret
    exact int_mk rfl (below_alloc (Below.refl _ _) _)
  have hz0 : ¬ (t.cols.length : Int) < 1 := by omega
  have hz2 : ¬ (12 : Int) < t.cols.length := by omega
  have hb0 : Below w.heap.size w (w.alloc (.cells #[.string t.nm, .slice A1 t.cols.length c1, .slice A2 t.key.length c2, .slice A3 t.fors.length c3, .slice A4 t.chks.length c4] 27)) := below_alloc (Below.refl _ _) _
  have hbx : (w.alloc (.cells #[.string t.nm, .slice A1 t.cols.length c1, .slice A2 t.key.length c2, .slice A3 t.fors.length c3, .slice A4 t.chks.length c4] 27)).heap[w.heap.size]? = some (.cells #[.string t.nm, .slice A1 t.cols.length c1, .slice A2 t.key.length c2, .slice A3 t.fors.length c3, .slice A4 t.chks.length c4] 27 (0, 0)) := blk_new _ _
  have HB := Aside0.mk hb0
  have HX := Aside0.mk hbx
  have HK := Aside0.mk (hT.below hb0)
  have HI := Lib.hid hI
  clear hb0 hbx hT hI
  go_wp2
  generalize w.alloc (.cells #[.string t.nm, .slice A1 t.cols.length c1, .slice A2 t.key.length c2, .slice A3 t.fors.length c3, .slice A4 t.chks.length c4] 27) = W0 at *
  have HZ := Lib.hid hz0
  clear hz0 hz2 hz hz1
  go_loopw [3, 4] (fun i xp wr => ∃ k : Nat, i = .int .i64 k ∧ k ≤ t.cols.length ∧ Aside0 (Below w.heap.size w wr) ∧ Aside0 (wr.heap[w.heap.size]? = some (.cells #[.string t.nm, .slice A1 t.cols.length c1, .slice A2 t.key.length c2, .slice A3 t.fors.length c3, .slice A4 t.chks.length c4] 27 (0, 0)))) (fun i _ _ => t.cols.length - (intOf i).toNat)
  case atStart => exact ⟨0, rfl, Nat.zero_le _, HB, HX⟩
  case round =>
    clear HB HX
    obtain ⟨k, rfl, hk', HB, HX⟩ := hrel
    have hwr : w.heap.size < wr.heap.size := blk_lt HX.out
    have t0 : (wr).cell? ⟨w.heap.size, 0, none⟩ = some (.string t.nm) := by rw [blk_cell HX.out]; rfl
    have t1 : (wr).cell? ⟨w.heap.size, 1, none⟩ = some (.slice A1 t.cols.length c1) := by rw [blk_cell HX.out]; rfl
    have t2 : (wr).cell? ⟨w.heap.size, 2, none⟩ = some (.slice A2 t.key.length c2) := by rw [blk_cell HX.out]; rfl
    have t3 : (wr).cell? ⟨w.heap.size, 3, none⟩ = some (.slice A3 t.fors.length c3) := by rw [blk_cell HX.out]; rfl
    have t4 : (wr).cell? ⟨w.heap.size, 4, none⟩ = some (.slice A4 t.chks.length c4) := by rw [blk_cell HX.out]; rfl
    by_cases h1 : k < t.cols.length
    · have hk1 : (0 : Int) ≤ k := by omega
      have hk2 : (k : Int) < t.cols.length := by omega
      have HKr := Aside0.mk (hTK.below HB.out)
      obtain ⟨xa, exa, x0, x1, x2⟩ := at_T80 HKr.out.cols k (by omega) (by omega)
      subst exa
      rw [Int.toNat_natCast] at x0 x1 x2
      have xbl := World.block_lt_of_cell? _ _ x0
      have hns : (rd_T80 t.cols k).f0.size ≤ 9223372036854775807 := by
        have := (HI.out.cols (rd_T80 t.cols k) (by simp [rd_T80, h1])).1
        rw [maxl] at this
        omega
      go_wp2_with fail
      refine (q120 _ hns _).mono ?_
      rintro e w1 ⟨b1, rfl, hb1⟩
      have hb11 := bel1 hb1
      have hpb := blk_below (blk_new wr (.cells #[.string (rd_T80 t.cols k).f0, .int .i64 (rd_T80 t.cols k).f1, .bool (rd_T80 t.cols k).f2] 80)) hb1
      have p0 : w1.cell? ⟨wr.heap.size, 0, none⟩ = some (.string (rd_T80 t.cols k).f0) := by rw [blk_cell hpb]; rfl
      have p1 : w1.cell? ⟨wr.heap.size, 1, none⟩ = some (.int .i64 (rd_T80 t.cols k).f1) := by rw [blk_cell hpb]; rfl
      have HB1 := Aside0.mk (below_step HB.out hb11)
      have HX1 := Aside0.mk (blk_below HX.out hb11)
      have pbl := World.block_lt_of_cell? _ _ p0
      clear t0 t1 t2 t3 t4 x0 x1 x2 xbl HB HX hb1 hpb
      have t0 : (w1).cell? ⟨w.heap.size, 0, none⟩ = some (.string t.nm) := by rw [blk_cell HX1.out]; rfl
      have t1 : (w1).cell? ⟨w.heap.size, 1, none⟩ = some (.slice (some xa) t.cols.length c1) := by rw [blk_cell HX1.out]; rfl
      have t2 : (w1).cell? ⟨w.heap.size, 2, none⟩ = some (.slice A2 t.key.length c2) := by rw [blk_cell HX1.out]; rfl
      have t3 : (w1).cell? ⟨w.heap.size, 3, none⟩ = some (.slice A3 t.fors.length c3) := by rw [blk_cell HX1.out]; rfl
      have t4 : (w1).cell? ⟨w.heap.size, 4, none⟩ = some (.slice A4 t.chks.length c4) := by rw [blk_cell HX1.out]; rfl
      have tbl := World.block_lt_of_cell? _ _ t0
      generalize wr.heap.size = bp at *
      go_wp2_with (go_at_call 155; refine (q155 t _ _ _ _ _ _ _ _ _ _ (hTK.below HB1.out) HI.out).mono ?_; rintro e w2 ⟨n2, rfl, hb2⟩)
      all_goals first
        | (go_ret; first | exact int_mk rfl HB1.out | exact int_mk rfl (below_step HB1.out hb2))
        | exact ⟨⟨k + 1, by go_num, h1, ⟨below_step HB1.out hb2⟩, ⟨blk_below HX1.out hb2⟩⟩, by simp [intOf]; omega⟩
    · go_wp2
      go_ret
      exact int_mk rfl HB.out
end Go.Proofs.YtiamihkfphmohaaGreatDoor.PA

namespace Go.Proofs.YtiamihkfphmohaaGreatDoor.PA
open Go.RowKit Go.Proofs.YtiamihkfphmohaaGreatDoorW.PrintWords Go.Proofs.YtiamihkfphmohaaGreatDoorW.PrintLast Go.Proofs.YtiamihkfphmohaaGreatDoorW.PrintMore

def IBRes (w : World) (e : Ending) (w' : World) : Prop := ∃ (n : Int) (b : Bool), e = .returned (.tuple #[.int .i64 n, .bool b]) ∧ Below w.heap.size w w'
def IIRes (w : World) (e : Ending) (w' : World) : Prop := ∃ (n m : Int), e = .returned (.tuple #[.int .i64 n, .int .i64 m]) ∧ Below w.heap.size w w'
theorem ib_mk {w w' : World} {e : Ending} {n : Int} {b : Bool} (he : e = .returned (.tuple #[.int .i64 n, .bool b])) (hb : Below w.heap.size w w') : IBRes w e w' := ⟨n, b, he, hb⟩
theorem ii_mk {w w' : World} {e : Ending} {n m : Int} (he : e = .returned (.tuple #[.int .i64 n, .int .i64 m])) (hb : Below w.heap.size w w') : IIRes w e w' := ⟨n, m, he, hb⟩
set_option maxHeartbeats 600000 in
theorem q237 (A : Option Addr) (n c : Nat) (l : List Int) (kd : Int) (w : World) (hr : (Kd.int .i64).C w A n l) : Calls Tryz.prog 237 #[.slice A n c, .int .i64 kd] w (BoolRes w) := by
  obtain rfl := hr.1
  have hm := hr.2.1
  have HR := Aside0.mk hr
  clear hr
  go_enter Tryz.func237, Tryz.ntmps237
  go_wp2
  go_loopw [5] (fun i wr => ∃ k : Nat, i = .int .i64 k ∧ k ≤ l.length ∧ Aside0 (Below w.heap.size w wr)) (fun i _ => l.length - (intOf i).toNat)
  case atStart => exact ⟨0, rfl, Nat.zero_le _, ⟨Below.refl _ _⟩⟩
  case round =>
    obtain ⟨k, rfl, hk', HB⟩ := hrel
    by_cases h1 : k < l.length
    · have hk1 : (0 : Int) ≤ k := by omega
      have hk2 : (k : Int) < l.length := by omega
      obtain ⟨xa, rfl, x0⟩ := Kd.at_int HR.out k (by omega) (by omega)
      rw [Int.toNat_natCast] at x0
      replace x0 := pw_cell_below HB.out x0
      go_wp2
      all_goals first
        | (go_ret; exact bool_mk rfl HB.out)
        | exact ⟨⟨k + 1, by go_num, h1, HB⟩, by simp [intOf]; omega⟩
    · go_wp2
      go_ret
      exact bool_mk rfl HB.out
set_option maxHeartbeats 600000 in
theorem q238 (A : Option Addr) (n c : Nat) (l : List Int) (w : World) (hr : (Kd.int .i64).C w A n l) : Calls Tryz.prog 238 #[.slice A n c] w (IBRes w) := by
  obtain rfl := hr.1
  have hm := hr.2.1
  have HR := Aside0.mk hr
  clear hr
  go_enter Tryz.func238, Tryz.ntmps238
  go_wp2
  go_loopw [4, 5] (fun q i wr => ∃ (k : Nat) (x : Int), q = .int .i64 x ∧ i = .int .i64 k ∧ k ≤ l.length ∧ Aside0 (Below w.heap.size w wr)) (fun _ i _ => l.length - (intOf i).toNat)
  case atStart => exact ⟨0, 0, rfl, rfl, Nat.zero_le _, ⟨Below.refl _ _⟩⟩
  case round =>
    obtain ⟨k, x, rfl, rfl, hk', HB⟩ := hrel
    by_cases h1 : k < l.length
    · have hk1 : (0 : Int) ≤ k := by omega
      have hk2 : (k : Int) < l.length := by omega
      obtain ⟨xa, rfl, x0⟩ := Kd.at_int HR.out k (by omega) (by omega)
      rw [Int.toNat_natCast] at x0
      replace x0 := pw_cell_below HB.out x0
      go_wp2
      all_goals first
        | (go_ret2; exact ib_mk rfl HB.out)
        | exact ⟨⟨k + 1, _, rfl, by go_num, h1, HB⟩, by simp [intOf]; omega⟩
    · go_wp2
      go_ret2
      exact ib_mk rfl HB.out
set_option maxHeartbeats 400000 in
theorem q141 (w : World) : Calls Tryz.prog 141 #[] w fun e w' => e = .returned (.agg #[.int .i64 0, .int .i64 0, .string ⟨#[]⟩]) ∧ Below w.heap.size w w' := by
  go_enter Tryz.func141, Tryz.ntmps141
  go_wp2
  refine bodyPost_ret (results_cell_row rfl _ _ w.heap.size 82 #[.int .i64 0, .int .i64 0, .string ⟨#[]⟩] (0, 0) _ rfl (hd_alloc_eq rfl) Tryz.underlying82 rfl (by kernel_rfl)) rfl ?_
  exact ⟨rfl, below_alloc (Below.refl _ _) _⟩
def EV (e : S191) (A : Option Addr) (c : Nat) : Value := .agg #[.int .i64 e.f0, .int .i64 e.f1, .int .i64 e.f2.f0, .int .i64 e.f2.f1, .string e.f2.f2, .string e.f3, .slice A e.f4.length c]
theorem C_tail {W : World} {xa : Addr} {l : List Int} (h : (Kd.int .i64).C W (some xa) l.length l) (hl : l.length = 3) : (Kd.int .i64).C W (some ⟨xa.block, xa.off + 1, none⟩) 2 (l.drop 1) := by
  obtain ⟨ad, e, hcell⟩ := h.2.2 (by omega)
  injection e with e
  subst e
  refine ⟨by rw [List.length_drop]; omega, by omega, fun _ => ⟨_, rfl, fun j p hj => ?_⟩⟩
  rw [List.getElem?_drop] at hj
  obtain ⟨c', h1, h2, h3⟩ := hcell (1 + j) p hj
  refine ⟨c', h1, h2, fun i u hu => ?_⟩
  have h4 := h3 i u hu
  have e1 : (Kd.int .i64).sz = 1 := rfl
  rw [e1] at h4 ⊢
  have e2 : (⟨xa.block, xa.off + 1, none⟩ : Addr).add (j * 1 + i) = xa.add ((1 + j) * 1 + i) := by
    unfold Addr.add
    by_cases h0 : j * 1 + i = 0
    · rw [if_pos h0, if_neg (by omega)]
      have : (1 + j) * 1 + i = 1 := by omega
      rw [this]
    · rw [if_neg h0, if_neg (by omega)]
      simp only [Addr.mk.injEq, true_and, and_true]
      omega
  rw [e2]
  exact h4
theorem C_hd {W : World} {xa : Addr} {l : List Int} (h : (Kd.int .i64).C W (some xa) l.length l) (hl : l.length = 3) : (Kd.int .i64).C W (some xa) 1 (l.take 1) := by
  have h := Kd.C_take (m := 1) h (by omega)
  rw [List.length_take, show min 1 l.length = 1 by omega] at h
  exact h
set_option maxHeartbeats 600000 in
set_option maxRecDepth 100000 in
theorem q211 (e : S191) (Ae : Option Addr) (ce : Nat) (A : Option Addr) (n c : Nat) (l : List Int) (A2 : Option Addr) (n2 c2 : Nat) (ks : List Int) (w : World) (hr : (Kd.int .i64).C w A n l) (hc : l.length ≤ c) (hr2 : (Kd.int .i64).C w A2 n2 ks)
    (h2 : e.f0 = 2 → 0 ≤ e.f1 ∧ e.f1 < ks.length) (h22 : e.f0 = 22 → l.length = 3) :
    Calls Tryz.prog 211 #[.agg #[.int .i64 e.f0, .int .i64 e.f1, .int .i64 e.f2.f0, .int .i64 e.f2.f1, .string e.f2.f2, .string e.f3, .slice Ae e.f4.length ce], .slice A n c, .slice A2 n2 c2] w (IBRes w) := by
  obtain rfl := hr.1
  obtain rfl := hr2.1
  have hb0 : Below w.heap.size w (w.alloc (.cells #[.int .i64 e.f0, .int .i64 e.f1, .int .i64 e.f2.f0, .int .i64 e.f2.f1, .string e.f2.f2, .string e.f3, .slice Ae e.f4.length ce] 191)) := below_alloc (Below.refl _ _) _
  have HR := Aside0.mk (Kd.C_below hr hb0)
  have HR2 := Aside0.mk (Kd.C_below hr2 hb0)
  have HB := Aside0.mk hb0
  clear hr hr2 hb0
  go_enter Tryz.func211, Tryz.ntmps211
  obtain ⟨op, i, v, s, args⟩ := e
  simp only at *
  by_cases e2 : op = 2
  · subst e2
    obtain ⟨ha, hb⟩ := h2 rfl
    obtain ⟨xa, rfl, x0⟩ := Kd.at_int HR2.out i ha hb
    have xbl := World.block_lt_of_cell? _ _ x0
    go_wp2
    go_ret2
    exact ib_mk rfl HB.out
  · by_cases e22 : op = 22
    · subst e22
      have h1l := h22 rfl
      obtain ⟨xa, rfl, x0⟩ := Kd.at_int HR.out 0 (by decide) (by omega)
      have hne : ¬ c = 1 := by omega
      have hne2 : ¬ (c : Int) = 1 := by omega
      have hl1 : l.length - 1 = 2 := by omega
      have HD := Aside0.mk (C_tail HR.out h1l)
      have HTK := Aside0.mk (C_hd HR.out h1l)
      clear x0 h2 h22
      go_wp2_with (first | (go_at_call 238; refine (q238 _ _ _ (l.drop 1) _ HD.out).mono ?_; rintro e w1 ⟨n1, b1, rfl, hb1⟩) | (go_at_call 237; refine (q237 _ _ _ (l.take 1) _ _ (Kd.C_below HTK.out hb1)).mono ?_; rintro e w2 ⟨b2, rfl, hb2⟩))
      all_goals
        go_ret2
        first | exact ib_mk rfl (below_step HB.out hb1) | exact ib_mk rfl (below_step HB.out (bthen hb1 hb2))
    · clear h2 h22
      go_wp2_with (first | (go_at_call 237; refine (q237 _ _ _ l _ _ HR.out).mono ?_; rintro e w1 ⟨b1, rfl, hb1⟩) | (go_at_call 238; refine (q238 _ _ _ l _ HR.out).mono ?_; rintro e w1 ⟨n1, b1, rfl, hb1⟩))
      all_goals
        go_ret2
        first | exact ib_mk rfl HB.out | exact ib_mk rfl (below_step HB.out hb1)
end Go.Proofs.YtiamihkfphmohaaGreatDoor.PA

namespace Go.Proofs.YtiamihkfphmohaaGreatDoor.PA
open Go.RowKit Go.Proofs.YtiamihkfphmohaaGreatDoorW.PrintWords Go.Proofs.YtiamihkfphmohaaGreatDoorW.PrintLast Go.Proofs.YtiamihkfphmohaaGreatDoorW.PrintMore
attribute [local go_sem] Tryz.underlying82
open Go.Sort
attribute [local irreducible] Go.wpQuiet
theorem mixedT' : Tryz.prog.follows .mixedOrders = true := by kernel_rfl
theorem ent141 : ∀ args w, (callFunc 141 args).run Tryz.prog w = .ok (.enter 141 args) w := enters_of Tryz.func141 (by kernel_rfl) rfl
set_option maxHeartbeats 400000 in
theorem q141x (w : World) : Calls Tryz.prog 141 #[] w fun e w' => e = .returned (.agg #[.int .i64 0, .int .i64 0, .string ⟨#[]⟩]) ∧ ∃ q os', w' = grow (w.drewN q) os' := by
  go_enter Tryz.func141, Tryz.ntmps141
  go_wp2
  refine bodyPost_ret (results_cell_row rfl _ _ w.heap.size 82 #[.int .i64 0, .int .i64 0, .string ⟨#[]⟩] (0, 0) _ rfl (hd_alloc_eq rfl) Tryz.underlying82 rfl (by kernel_rfl)) rfl ?_
  exact ⟨rfl, 0, _, by rw [alloc_eq_grow]; rfl⟩
theorem below_gr' (w : World) (n : Nat) (os : Array Obj) : Below w.heap.size w (grow (w.drewN n) os) := by
  refine ⟨rfl, rfl, rfl, ?_, fun k hk => ?_⟩
  · rw [size_grow]; exact Nat.le_add_right _ _
  · show (w.heap ++ os)[k]? = _
    rw [Array.getElem?_append_left hk]
set_option maxHeartbeats 400000 in
theorem eq82 (a b : Int) (s : ByteArray) (W : World) : (binOp .eql 82 (.agg #[.int .i64 a, .int .i64 b, .string s]) (.agg #[.int .i64 0, .int .i64 0, .string ⟨#[]⟩])).run Tryz.prog W = .ok (.bool (decide (a = 0) && (decide (b = 0) && s.toList.isEmpty))) W := by
  by_cases h0 : a = 0 <;> by_cases h1 : b = 0 <;> cases h2 : s.toList.isEmpty <;> go_simp

def FrmRes (op : Int) (n : Nat) (w : World) (e : Ending) (w' : World) : Prop := ∃ r : Bool, e = .returned (.bool r) ∧ (r = true → n ≤ 1099511627776 ∧ (op = 22 → n = 3)) ∧ Below w.heap.size w w'
theorem frm_mk {op : Int} {n : Nat} {w w' : World} {e : Ending} {r : Bool} (he : e = .returned (.bool r)) (h : r = true → n ≤ 1099511627776 ∧ (op = 22 → n = 3)) (hb : Below w.heap.size w w') : FrmRes op n w e w' := ⟨r, he, h, hb⟩
set_option maxHeartbeats 1000000 in
set_option maxRecDepth 100000 in
theorem q210 (op ei va vb : Int) (vs es : ByteArray) (A : Option Addr) (n c : Nat) (w : World) (hvs : vs.size ≤ 9223372036854775807) (hes : es.size ≤ 9223372036854775807) :
    Calls Tryz.prog 210 #[.agg #[.int .i64 op, .int .i64 ei, .int .i64 va, .int .i64 vb, .string vs, .string es, .slice A n c]] w (FrmRes op n w) := by
  have mixed := mixedT'
  have e141 := ent141
  have hq0 := eq82 va vb vs
  generalize (decide (va = 0) && (decide (vb = 0) && vs.toList.isEmpty)) = q at hq0
  have hHB : Below w.heap.size w (w.alloc (.cells #[.int .i64 op, .int .i64 ei, .int .i64 va, .int .i64 vb, .string vs, .string es, .slice A n c] 191)) := below_alloc (Below.refl _ _) _
  go_enter Tryz.func210, Tryz.ntmps210
  go_wp2_with fail
  refine (q209 op _).mono ?_
  rintro e w1 ⟨lo, hi, rfl, hhi, h22, hb1⟩
  have hpb := blk_below (blk_new w (.cells #[.int .i64 op, .int .i64 ei, .int .i64 va, .int .i64 vb, .string vs, .string es, .slice A n c] 191)) hb1
  have p0 : w1.cell? ⟨w.heap.size, 0, none⟩ = some (.int .i64 op) := by rw [blk_cell hpb]; rfl
  have p1 : w1.cell? ⟨w.heap.size, 1, none⟩ = some (.int .i64 ei) := by rw [blk_cell hpb]; rfl
  have p2 : w1.cell? ⟨w.heap.size, 2, none⟩ = some (.int .i64 va) := by rw [blk_cell hpb]; rfl
  have p3 : w1.cell? ⟨w.heap.size, 3, none⟩ = some (.int .i64 vb) := by rw [blk_cell hpb]; rfl
  have p4 : w1.cell? ⟨w.heap.size, 4, none⟩ = some (.string vs) := by rw [blk_cell hpb]; rfl
  have p5 : w1.cell? ⟨w.heap.size, 5, none⟩ = some (.string es) := by rw [blk_cell hpb]; rfl
  have p6 : w1.cell? ⟨w.heap.size, 6, none⟩ = some (.slice A n c) := by rw [blk_cell hpb]; rfl
  have pl := World.block_lt_of_cell? _ _ p0
  have HB1 := Aside0.mk (bel1 hb1)
  clear hpb hb1 hHB
  by_cases hlo : lo < 0
  · go_wp2
    go_ret
    exact frm_mk rfl (fun h => by cases h) HB1.out
  by_cases hlo2 : (n : Int) < lo
  · go_wp2
    go_ret
    exact frm_mk rfl (fun h => by cases h) HB1.out
  by_cases hlo3 : hi < (n : Int)
  · go_wp2
    go_ret
    exact frm_mk rfl (fun h => by cases h) HB1.out
  have HG := Lib.hid (show n ≤ 1099511627776 ∧ (op = 22 → n = 3) from ⟨by omega, fun h => by have := h22 h; omega⟩)
  have hlo4 : ¬ hi < (n : Int) := hlo3
  clear h22 hhi
  by_cases hes0 : ¬ es.toList = []
  · have hie : es.toList.isEmpty = false := by
      cases hq : es.toList with
      | nil => exact absurd hq hes0
      | cons a l => rfl
    go_wp2
    all_goals
      go_ret
      exact frm_mk rfl (fun _ => HG.out) HB1.out
  have hes1 := Classical.not_not.1 hes0
  clear hes0
  by_cases o1 : op = 1
  · have n1 : (op == 1) = true := by simpa using o1
    clear o1
    by_cases i0 : ei = 0
    · have i1 : (ei == 0) = true := by simpa using i0
      clear i0
      go_wp2_with (go_at_call 159; refine (q159 _ _ vs hvs _).mono ?_; rintro e w2 ⟨b2, rfl, _, hb2⟩)
      all_goals
        go_ret
        first | exact frm_mk rfl (fun _ => HG.out) HB1.out | exact frm_mk rfl (fun _ => HG.out) (below_step HB1.out hb2)
    · have i1 : (ei == 0) = false := by simpa using i0
      go_wp2
      all_goals
        go_ret
        exact frm_mk rfl (fun _ => HG.out) HB1.out
  have n1 : (op == 1) = false := by simpa using o1
  by_cases o2 : op = 2
  · have n2 : (op == 2) = true := by simpa using o2
    clear o2
    go_wp2_with fail
    have g0 := cell_grown pl p0
    have g1 := cell_grown (a := ⟨w.heap.size, 1, none⟩) pl p1
    have g2 := cell_grown (a := ⟨w.heap.size, 2, none⟩) pl p2
    have g3 := cell_grown (a := ⟨w.heap.size, 3, none⟩) pl p3
    have g4 := cell_grown (a := ⟨w.heap.size, 4, none⟩) pl p4
    have g5 := cell_grown (a := ⟨w.heap.size, 5, none⟩) pl p5
    clear p0 p1 p2 p3 p4 p5 p6
    go_quiet_grown ((go_at_fn 141; refine Calls.grown_of (q141x _)))
    have HB2 := Aside0.mk (bthen HB1.out (below_gr' w1 nq osq))
    clear g0 g1 g2 g3 g4 g5
    generalize grow (w1.drewN nq) osq = w2 at *
    go_wp2
    go_ret
    exact frm_mk rfl (fun _ => HG.out) HB2.out
  have n2 : (op == 2) = false := by simpa using o2
  by_cases o24 : op = 24
  · have n24 : (op == 24) = true := by simpa using o24
    clear o24
    cases q with
    | true =>
      by_cases i0 : 0 ≤ ei
      · by_cases i13 : ei < 13
        · have i2 : decide (0 ≤ ei) = true := decide_eq_true i0
          have i3 : decide (ei < 13) = true := decide_eq_true i13
          go_wp2_with fail
          have g0 := cell_grown pl p0
          have g1 := cell_grown (a := ⟨w.heap.size, 1, none⟩) pl p1
          have g2 := cell_grown (a := ⟨w.heap.size, 2, none⟩) pl p2
          have g3 := cell_grown (a := ⟨w.heap.size, 3, none⟩) pl p3
          have g4 := cell_grown (a := ⟨w.heap.size, 4, none⟩) pl p4
          have g5 := cell_grown (a := ⟨w.heap.size, 5, none⟩) pl p5
          clear p0 p1 p2 p3 p4 p5 p6
          go_quiet_grown ((go_at_fn 141; refine Calls.grown_of (q141x _)))
          have HB2 := Aside0.mk (bthen HB1.out (below_gr' w1 nq osq))
          clear g0 g1 g2 g3 g4 g5
          generalize grow (w1.drewN nq) osq = w2 at *
          go_wp2
          go_ret
          exact frm_mk rfl (fun _ => HG.out) HB2.out
        · have i2 : decide (0 ≤ ei) = true := decide_eq_true i0
          have i3 : decide (ei < 13) = false := decide_eq_false i13
          go_wp2_with fail
          have g0 := cell_grown pl p0
          have g1 := cell_grown (a := ⟨w.heap.size, 1, none⟩) pl p1
          have g2 := cell_grown (a := ⟨w.heap.size, 2, none⟩) pl p2
          have g3 := cell_grown (a := ⟨w.heap.size, 3, none⟩) pl p3
          have g4 := cell_grown (a := ⟨w.heap.size, 4, none⟩) pl p4
          have g5 := cell_grown (a := ⟨w.heap.size, 5, none⟩) pl p5
          clear p0 p1 p2 p3 p4 p5 p6
          go_quiet_grown ((go_at_fn 141; refine Calls.grown_of (q141x _)))
          have HB2 := Aside0.mk (bthen HB1.out (below_gr' w1 nq osq))
          clear g0 g1 g2 g3 g4 g5
          generalize grow (w1.drewN nq) osq = w2 at *
          go_wp2
          go_ret
          exact frm_mk rfl (fun _ => HG.out) HB2.out
      · have i2 : decide (0 ≤ ei) = false := decide_eq_false i0
        have i3 : ei < 0 := by omega
        go_wp2_with fail
        have g0 := cell_grown pl p0
        have g1 := cell_grown (a := ⟨w.heap.size, 1, none⟩) pl p1
        have g2 := cell_grown (a := ⟨w.heap.size, 2, none⟩) pl p2
        have g3 := cell_grown (a := ⟨w.heap.size, 3, none⟩) pl p3
        have g4 := cell_grown (a := ⟨w.heap.size, 4, none⟩) pl p4
        have g5 := cell_grown (a := ⟨w.heap.size, 5, none⟩) pl p5
        clear p0 p1 p2 p3 p4 p5 p6
        go_quiet_grown ((go_at_fn 141; refine Calls.grown_of (q141x _)))
        have HB2 := Aside0.mk (bthen HB1.out (below_gr' w1 nq osq))
        clear g0 g1 g2 g3 g4 g5
        generalize grow (w1.drewN nq) osq = w2 at *
        go_wp2
        go_ret
        exact frm_mk rfl (fun _ => HG.out) HB2.out
    | false =>
      go_wp2_with fail
      have g0 := cell_grown pl p0
      have g1 := cell_grown (a := ⟨w.heap.size, 1, none⟩) pl p1
      have g2 := cell_grown (a := ⟨w.heap.size, 2, none⟩) pl p2
      have g3 := cell_grown (a := ⟨w.heap.size, 3, none⟩) pl p3
      have g4 := cell_grown (a := ⟨w.heap.size, 4, none⟩) pl p4
      have g5 := cell_grown (a := ⟨w.heap.size, 5, none⟩) pl p5
      clear p0 p1 p2 p3 p4 p5 p6
      go_quiet_grown ((go_at_fn 141; refine Calls.grown_of (q141x _)))
      have HB2 := Aside0.mk (bthen HB1.out (below_gr' w1 nq osq))
      clear g0 g1 g2 g3 g4 g5
      generalize grow (w1.drewN nq) osq = w2 at *
      go_wp2
      go_ret
      exact frm_mk rfl (fun _ => HG.out) HB2.out
  have n24 : (op == 24) = false := by simpa using o24
  by_cases i0 : ei = 0
  · have i1 : (ei == 0) = true := by simpa using i0
    clear i0
    go_wp2_with fail
    have g0 := cell_grown pl p0
    have g1 := cell_grown (a := ⟨w.heap.size, 1, none⟩) pl p1
    have g2 := cell_grown (a := ⟨w.heap.size, 2, none⟩) pl p2
    have g3 := cell_grown (a := ⟨w.heap.size, 3, none⟩) pl p3
    have g4 := cell_grown (a := ⟨w.heap.size, 4, none⟩) pl p4
    have g5 := cell_grown (a := ⟨w.heap.size, 5, none⟩) pl p5
    clear p0 p1 p2 p3 p4 p5 p6
    go_quiet_grown ((go_at_fn 141; refine Calls.grown_of (q141x _)))
    have HB2 := Aside0.mk (bthen HB1.out (below_gr' w1 nq osq))
    clear g0 g1 g2 g3 g4 g5
    generalize grow (w1.drewN nq) osq = w2 at *
    go_wp2
    go_ret
    exact frm_mk rfl (fun _ => HG.out) HB2.out
  · have i1 : (ei == 0) = false := by simpa using i0
    go_wp2_with fail
    have g0 := cell_grown pl p0
    have g1 := cell_grown (a := ⟨w.heap.size, 1, none⟩) pl p1
    have g2 := cell_grown (a := ⟨w.heap.size, 2, none⟩) pl p2
    have g3 := cell_grown (a := ⟨w.heap.size, 3, none⟩) pl p3
    have g4 := cell_grown (a := ⟨w.heap.size, 4, none⟩) pl p4
    have g5 := cell_grown (a := ⟨w.heap.size, 5, none⟩) pl p5
    clear p0 p1 p2 p3 p4 p5 p6
    go_quiet_grown ((go_at_fn 141; refine Calls.grown_of (q141x _)))
    have HB2 := Aside0.mk (bthen HB1.out (below_gr' w1 nq osq))
    clear g0 g1 g2 g3 g4 g5
    generalize grow (w1.drewN nq) osq = w2 at *
    go_wp2
    go_ret
    exact frm_mk rfl (fun _ => HG.out) HB2.out
end Go.Proofs.YtiamihkfphmohaaGreatDoor.PA

namespace Go.Proofs.YtiamihkfphmohaaGreatDoor.PA
open Go.RowKit Go.Proofs.YtiamihkfphmohaaGreatDoorW.PrintWords Go.Proofs.YtiamihkfphmohaaGreatDoorW.PrintLast Go.Proofs.YtiamihkfphmohaaGreatDoorW.PrintMore
attribute [local go_sem] max2_int min2_int max_two min_two
set_option maxHeartbeats 600000 in
theorem q180 {e : S191} (he : EIn e) : ∀ (A : Option Addr) (c : Nat) (w : World), k191.C w A e.f4.length e.f4 → Calls Tryz.prog 180 #[.agg #[.int .i64 e.f0, .int .i64 e.f1, .int .i64 e.f2.f0, .int .i64 e.f2.f1, .string e.f2.f2, .string e.f3, .slice A e.f4.length c]] w (IntRes w) := by
  induction he with
  | mk e h0 h1 h2 h3 h4 h5 ih =>
    intro A c w hC
    have hb0 : Below w.heap.size w (w.alloc (.cells #[.int .i64 e.f0, .int .i64 e.f1, .int .i64 e.f2.f0, .int .i64 e.f2.f1, .string e.f2.f2, .string e.f3, .slice A e.f4.length c] 191)) := below_alloc (Below.refl _ _) _
    have hbx : (w.alloc (.cells #[.int .i64 e.f0, .int .i64 e.f1, .int .i64 e.f2.f0, .int .i64 e.f2.f1, .string e.f2.f2, .string e.f3, .slice A e.f4.length c] 191)).heap[w.heap.size]? = some (.cells #[.int .i64 e.f0, .int .i64 e.f1, .int .i64 e.f2.f0, .int .i64 e.f2.f1, .string e.f2.f2, .string e.f3, .slice A e.f4.length c] 191 (0, 0)) := blk_new _ _
    have HB := Aside0.mk hb0
    have HX := Aside0.mk hbx
    have HK := Aside0.mk hC
    have IH := Lib.hid ih
    have hml : e.f4.length ≤ 9223372036854775807 := by rw [maxl] at h4; exact h4
    clear hb0 hbx hC ih h0 h1 h2 h3 h4 h5
    go_enter Tryz.func180, Tryz.ntmps180
    go_wp2
    generalize w.alloc (.cells #[.int .i64 e.f0, .int .i64 e.f1, .int .i64 e.f2.f0, .int .i64 e.f2.f1, .string e.f2.f2, .string e.f3, .slice A e.f4.length c] 191) = W0 at *
    go_loopw [3, 4] (fun q i wr => ∃ (k : Nat) (x : Int), q = .int .i64 x ∧ i = .int .i64 k ∧ k ≤ e.f4.length ∧ Aside0 (Below w.heap.size w wr) ∧ Aside0 (wr.heap[w.heap.size]? = some (.cells #[.int .i64 e.f0, .int .i64 e.f1, .int .i64 e.f2.f0, .int .i64 e.f2.f1, .string e.f2.f2, .string e.f3, .slice A e.f4.length c] 191 (0, 0)))) (fun _ i _ => e.f4.length - (intOf i).toNat)
    case atStart => exact ⟨0, 0, rfl, rfl, Nat.zero_le _, HB, HX⟩
    case round =>
      clear HB HX
      obtain ⟨k, x, rfl, rfl, hk', HB, HX⟩ := hrel
      have p6 : (wr).cell? ⟨w.heap.size, 6, none⟩ = some (.slice A e.f4.length c) := by rw [blk_cell HX.out]; rfl
      have pl := World.block_lt_of_cell? _ _ p6
      by_cases h1 : k < e.f4.length
      · have hk1 : (0 : Int) ≤ k := by omega
        have hk2 : (k : Int) < e.f4.length := by omega
        have hmem : rd_T191 e.f4 k ∈ e.f4 := by simp [rd_T191, h1]
        obtain ⟨xa, A6, c6, exa, x0, x1, x2, x3, x4, x5, x6, _, hC6⟩ := at_T191 (Kd.C_below HK.out HB.out) k (by omega) (by omega)
        subst exa
        rw [Int.toNat_natCast] at x0 x1 x2 x3 x4 x5 x6
        have xbl := World.block_lt_of_cell? _ _ x0
        have HC6 := Aside0.mk hC6
        clear hC6
        go_wp2_with (go_at_call 180; refine (IH.out _ hmem A6 c6 _ HC6.out).mono ?_; rintro e1 w1 ⟨n1, rfl, hb1⟩)
        all_goals exact ⟨⟨k + 1, _, rfl, by go_num, h1, ⟨below_step HB.out hb1⟩, ⟨blk_below HX.out hb1⟩⟩, by simp [intOf]; omega⟩
      · go_wp2
        go_ret
        exact int_mk rfl HB.out
set_option maxHeartbeats 1600000 in
set_option maxRecDepth 100000 in
theorem q181 {e : S191} (he : EIn e) : ∀ (A : Option Addr) (c : Nat) (ks : List Int) (A2 : Option Addr) (c2 : Nat) (w : World), k191.C w A e.f4.length e.f4 → (Kd.int .i64).C w A2 ks.length ks → Calls Tryz.prog 181 #[.agg #[.int .i64 e.f0, .int .i64 e.f1, .int .i64 e.f2.f0, .int .i64 e.f2.f1, .string e.f2.f2, .string e.f3, .slice A e.f4.length c], .slice A2 ks.length c2] w (IIRes w) := by
  induction he with
  | mk e h0 h1 h2 h3 h4 h5 ih =>
    intro A c ks A2 c2 w hC hK2
    have hb0 : Below w.heap.size w (w.alloc (.cells #[.int .i64 e.f0, .int .i64 e.f1, .int .i64 e.f2.f0, .int .i64 e.f2.f1, .string e.f2.f2, .string e.f3, .slice A e.f4.length c] 191)) := below_alloc (Below.refl _ _) _
    have hbx : (w.alloc (.cells #[.int .i64 e.f0, .int .i64 e.f1, .int .i64 e.f2.f0, .int .i64 e.f2.f1, .string e.f2.f2, .string e.f3, .slice A e.f4.length c] 191)).heap[w.heap.size]? = some (.cells #[.int .i64 e.f0, .int .i64 e.f1, .int .i64 e.f2.f0, .int .i64 e.f2.f1, .string e.f2.f2, .string e.f3, .slice A e.f4.length c] 191 (0, 0)) := blk_new _ _
    have hml : e.f4.length ≤ 9223372036854775807 := by rw [maxl] at h4; exact h4
    have hvs : e.f2.f2.size ≤ 9223372036854775807 := by have := h2.2; rw [maxl] at this; exact this
    have hes : e.f3.size ≤ 9223372036854775807 := by rw [maxl] at h3; exact h3
    have HK := Aside0.mk hC
    have HK2 := Aside0.mk hK2
    have IH := Lib.hid ih
    clear hC hK2 ih h0 h1 h2 h3 h4 h5
    go_enter Tryz.func181, Tryz.ntmps181
    go_wp2_with fail
    refine (q209 e.f0 _).mono ?_
    rintro e1 w1 ⟨lo, hi, rfl, _, _, hb1⟩
    have hpb := blk_below hbx hb1
    have p0 : (w1).cell? ⟨w.heap.size, 0, none⟩ = some (.int .i64 e.f0) := by rw [blk_cell hpb]; rfl
    have p1 : (w1).cell? ⟨w.heap.size, 1, none⟩ = some (.int .i64 e.f1) := by rw [blk_cell hpb]; rfl
    have p2 : (w1).cell? ⟨w.heap.size, 2, none⟩ = some (.int .i64 e.f2.f0) := by rw [blk_cell hpb]; rfl
    have p3 : (w1).cell? ⟨w.heap.size, 3, none⟩ = some (.int .i64 e.f2.f1) := by rw [blk_cell hpb]; rfl
    have p4 : (w1).cell? ⟨w.heap.size, 4, none⟩ = some (.string e.f2.f2) := by rw [blk_cell hpb]; rfl
    have p5 : (w1).cell? ⟨w.heap.size, 5, none⟩ = some (.string e.f3) := by rw [blk_cell hpb]; rfl
    have p6 : (w1).cell? ⟨w.heap.size, 6, none⟩ = some (.slice A e.f4.length c) := by rw [blk_cell hpb]; rfl
    have pl := World.block_lt_of_cell? _ _ p0
    have HB1 := Aside0.mk (bel1 hb1)
    have HX1 := Aside0.mk hpb
    clear hpb hb1 hb0 hbx
    by_cases hlo : lo < 0
    · go_wp2
      go_ret2
      exact ii_mk rfl HB1.out
    go_wp2_with fail
    refine (q210 e.f0 e.f1 e.f2.f0 e.f2.f1 e.f2.f2 e.f3 A e.f4.length c _ hvs hes).mono ?_
    rintro e1 w2 ⟨r2, rfl, hfr, hb2⟩
    have hpb := blk_below HX1.out hb2
    clear p0 p1 p2 p3 p4 p5 p6 pl
    have p0 : (w2).cell? ⟨w.heap.size, 0, none⟩ = some (.int .i64 e.f0) := by rw [blk_cell hpb]; rfl
    have p1 : (w2).cell? ⟨w.heap.size, 1, none⟩ = some (.int .i64 e.f1) := by rw [blk_cell hpb]; rfl
    have p2 : (w2).cell? ⟨w.heap.size, 2, none⟩ = some (.int .i64 e.f2.f0) := by rw [blk_cell hpb]; rfl
    have p3 : (w2).cell? ⟨w.heap.size, 3, none⟩ = some (.int .i64 e.f2.f1) := by rw [blk_cell hpb]; rfl
    have p4 : (w2).cell? ⟨w.heap.size, 4, none⟩ = some (.string e.f2.f2) := by rw [blk_cell hpb]; rfl
    have p5 : (w2).cell? ⟨w.heap.size, 5, none⟩ = some (.string e.f3) := by rw [blk_cell hpb]; rfl
    have p6 : (w2).cell? ⟨w.heap.size, 6, none⟩ = some (.slice A e.f4.length c) := by rw [blk_cell hpb]; rfl
    have pl := World.block_lt_of_cell? _ _ p0
    have HB2 := Aside0.mk (bthen HB1.out hb2)
    have HX2 := Aside0.mk hpb
    clear hpb hb2 HB1 HX1
    cases r2 with
    | false =>
      go_wp2
      go_ret2
      exact ii_mk rfl HB2.out
    | true =>
      obtain ⟨hfn, hf22⟩ := hfr rfl
      have HF22 := Lib.hid hf22
      clear hfr hf22
      by_cases hop : e.f0 = 2 ∧ ¬ (0 ≤ e.f1 ∧ e.f1 < ks.length)
      · obtain ⟨o1, o2⟩ := hop
        have n1 : (e.f0 == 2) = true := by simpa using o1
        by_cases i0 : e.f1 < 0
        · go_wp2
          go_ret2
          exact ii_mk rfl HB2.out
        · have i1 : (ks.length : Int) ≤ e.f1 := by omega
          go_wp2
          go_ret2
          exact ii_mk rfl HB2.out
      have HOP := Lib.hid (show e.f0 = 2 → 0 ≤ e.f1 ∧ e.f1 < ks.length from fun h => Classical.byContradiction fun h2 => hop ⟨h, h2⟩)
      have HO := Aside0.mk (R_made (d := Kd.int .i64) (e := 3) (size := 1) (w := w2.alloc (.cells #[] 3)) (base := w2.heap.size) (v := .slice (some ⟨w2.heap.size, 0, none⟩) 0 0) rfl (by have h := World.ownsRow_lit (base := w2.heap.size) (e := 3) (size := 1) w2 #[] 0 (Nat.le_refl _) (by simp [maxLen]) (by simp); simpa using h))
      have HB3 := Aside0.mk (below_alloc HB2.out (.cells #[] 3))
      have HX3 := Aside0.mk (blk_alloc HX2.out (.cells #[] 3))
      have hsw : w.heap.size ≤ w2.heap.size := HB2.out.size
      have hgo : (e.f0 == 2) = false ∨ (e.f0 == 2) = true ∧ ¬ e.f1 < 0 ∧ ¬ (ks.length : Int) ≤ e.f1 := by
        by_cases o1 : e.f0 = 2
        · have := HOP.out o1
          exact .inr ⟨by simpa using o1, by omega, by omega⟩
        · exact .inl (by simpa using o1)
      clear hop HB2 HX2
      rcases hgo with n1 | ⟨n1, n2, n3⟩
      · go_wp2
        generalize w2.alloc (.cells #[] 3) = W3 at *
        go_loopw [8, 9, 10, 11] (fun v i xk xf wr => ∃ (k : Nat) (l : List Int), i = .int .i64 k ∧ k ≤ e.f4.length ∧ l.length = k ∧ Aside0 ((Kd.int .i64).R 3 wr w.heap.size (fun _ => True) v l) ∧ Aside0 (Below w.heap.size w wr) ∧ Aside0 (wr.heap[w.heap.size]? = some (.cells #[.int .i64 e.f0, .int .i64 e.f1, .int .i64 e.f2.f0, .int .i64 e.f2.f1, .string e.f2.f2, .string e.f3, .slice A e.f4.length c] 191 (0, 0)))) (fun _ i _ _ _ => e.f4.length - (intOf i).toNat)
        case atStart => exact ⟨0, [], rfl, Nat.zero_le _, rfl, ⟨Kd.R_lower HO.out hsw⟩, HB3, HX3⟩
        case round =>
          clear HB3 HX3 HO p0 p1 p2 p3 p4 p5 p6 pl
          obtain ⟨k, l, rfl, hk', hll, HL, HB, HX⟩ := hrel
          have HLL := Lib.hid hll
          clear hll
          have hwr : w.heap.size < wr.heap.size := blk_lt HX.out
          have p0 : (wr).cell? ⟨w.heap.size, 0, none⟩ = some (.int .i64 e.f0) := by rw [blk_cell HX.out]; rfl
          have p1 : (wr).cell? ⟨w.heap.size, 1, none⟩ = some (.int .i64 e.f1) := by rw [blk_cell HX.out]; rfl
          have p2 : (wr).cell? ⟨w.heap.size, 2, none⟩ = some (.int .i64 e.f2.f0) := by rw [blk_cell HX.out]; rfl
          have p3 : (wr).cell? ⟨w.heap.size, 3, none⟩ = some (.int .i64 e.f2.f1) := by rw [blk_cell HX.out]; rfl
          have p4 : (wr).cell? ⟨w.heap.size, 4, none⟩ = some (.string e.f2.f2) := by rw [blk_cell HX.out]; rfl
          have p5 : (wr).cell? ⟨w.heap.size, 5, none⟩ = some (.string e.f3) := by rw [blk_cell HX.out]; rfl
          have p6 : (wr).cell? ⟨w.heap.size, 6, none⟩ = some (.slice A e.f4.length c) := by rw [blk_cell HX.out]; rfl
          have pl := World.block_lt_of_cell? _ _ p0
          by_cases h1 : k < e.f4.length
          · have hk1 : (0 : Int) ≤ k := by omega
            have hk2 : (k : Int) < e.f4.length := by omega
            have hmem : rd_T191 e.f4 k ∈ e.f4 := by simp [rd_T191, h1]
            obtain ⟨xa, A6, c6, exa, x0, x1, x2, x3, x4, x5, x6, _, hC6⟩ := at_T191 (Kd.C_below HK.out HB.out) k (by omega) (by omega)
            subst exa
            rw [Int.toNat_natCast] at x0 x1 x2 x3 x4 x5 x6
            have xbl := World.block_lt_of_cell? _ _ x0
            have HC6 := Aside0.mk hC6
            clear hC6
            go_wp2_with fail
            refine (IH.out _ hmem A6 c6 ks A2 c2 _ HC6.out (Kd.C_below HK2.out HB.out)).mono ?_
            rintro e1 w5 ⟨n5, m5, rfl, hb5⟩
            have HL5 := Aside0.mk (Kd.R_below HL.out hb5)
            have HB5 := Aside0.mk (below_step HB.out hb5)
            have HX5 := Aside0.mk (blk_below HX.out hb5)
            clear HL HB HX hb5 p0 p1 p2 p3 p4 p5 p6 pl x0 x1 x2 x3 x4 x5 x6 xbl
            by_cases hm : m5 = 0
            · subst hm
              go_wp2_with (at_builtin; refine Kd.R_append (Kd.int .i64) (w0 := w) w.heap.size rfl (.tmp 61) (.tmp 63) 23 3 (.int .i64 0) 8 rfl Tryz.underlying23 info3 rfl (by decide) (by omega) u8 l n5 [.int .i64 n5] (fun _ => True) (fun _ => False) rfl rfl (show (Kd.int .i64).M _ _ _ _ _ from rfl) (fun _ hk => hk.elim) (fun _ _ => trivial) ?aO ?aB ?aS ?aL ?_; (case aO => exact HL5.out); (case aB => exact HB5.out); (case aS => exact HB5.out.size); (case aL => exact (by have := HLL.out; omega)); intro v1 w6 ho hb hg hat; skip)
              exact ⟨⟨k + 1, l ++ [n5], by go_num, h1, by have := HLL.out; simp; omega, ⟨ho⟩, ⟨hb⟩, ⟨blk_grown HX5.out hg (R_apart HL5.out HX5.out (by intro cs e; injection e with _ e2; cases e2))⟩⟩, by simp [intOf]; omega⟩
            · have hm1 : (m5 != 0) = true := by simpa using hm
              go_wp2
              go_ret2
              exact ii_mk rfl HB5.out
          · obtain ⟨A8, c8, rfl⟩ := Kd.R_slice HL.out
            have hr8 := Kd.R_reads' HL.out
            go_wp2_with fail
            refine (q211 e A c A8 _ c8 l A2 _ c2 ks _ hr8.2.2 hr8.2.1 (Kd.C_below HK2.out HB.out) HOP.out (fun h => by have := HF22.out h; have := HLL.out; omega)).mono ?_
            rintro e1 w7 ⟨n7, b7, rfl, hb7⟩
            have HB7 := Aside0.mk (bthen HB.out hb7)
            go_wp2
            all_goals
              go_ret2
              exact ii_mk rfl HB7.out
      · go_wp2
        generalize w2.alloc (.cells #[] 3) = W3 at *
        go_loopw [8, 9, 10, 11] (fun v i xk xf wr => ∃ (k : Nat) (l : List Int), i = .int .i64 k ∧ k ≤ e.f4.length ∧ l.length = k ∧ Aside0 ((Kd.int .i64).R 3 wr w.heap.size (fun _ => True) v l) ∧ Aside0 (Below w.heap.size w wr) ∧ Aside0 (wr.heap[w.heap.size]? = some (.cells #[.int .i64 e.f0, .int .i64 e.f1, .int .i64 e.f2.f0, .int .i64 e.f2.f1, .string e.f2.f2, .string e.f3, .slice A e.f4.length c] 191 (0, 0)))) (fun _ i _ _ _ => e.f4.length - (intOf i).toNat)
        case atStart => exact ⟨0, [], rfl, Nat.zero_le _, rfl, ⟨Kd.R_lower HO.out hsw⟩, HB3, HX3⟩
        case round =>
          clear HB3 HX3 HO p0 p1 p2 p3 p4 p5 p6 pl
          obtain ⟨k, l, rfl, hk', hll, HL, HB, HX⟩ := hrel
          have HLL := Lib.hid hll
          clear hll
          have hwr : w.heap.size < wr.heap.size := blk_lt HX.out
          have p0 : (wr).cell? ⟨w.heap.size, 0, none⟩ = some (.int .i64 e.f0) := by rw [blk_cell HX.out]; rfl
          have p1 : (wr).cell? ⟨w.heap.size, 1, none⟩ = some (.int .i64 e.f1) := by rw [blk_cell HX.out]; rfl
          have p2 : (wr).cell? ⟨w.heap.size, 2, none⟩ = some (.int .i64 e.f2.f0) := by rw [blk_cell HX.out]; rfl
          have p3 : (wr).cell? ⟨w.heap.size, 3, none⟩ = some (.int .i64 e.f2.f1) := by rw [blk_cell HX.out]; rfl
          have p4 : (wr).cell? ⟨w.heap.size, 4, none⟩ = some (.string e.f2.f2) := by rw [blk_cell HX.out]; rfl
          have p5 : (wr).cell? ⟨w.heap.size, 5, none⟩ = some (.string e.f3) := by rw [blk_cell HX.out]; rfl
          have p6 : (wr).cell? ⟨w.heap.size, 6, none⟩ = some (.slice A e.f4.length c) := by rw [blk_cell HX.out]; rfl
          have pl := World.block_lt_of_cell? _ _ p0
          by_cases h1 : k < e.f4.length
          · have hk1 : (0 : Int) ≤ k := by omega
            have hk2 : (k : Int) < e.f4.length := by omega
            have hmem : rd_T191 e.f4 k ∈ e.f4 := by simp [rd_T191, h1]
            obtain ⟨xa, A6, c6, exa, x0, x1, x2, x3, x4, x5, x6, _, hC6⟩ := at_T191 (Kd.C_below HK.out HB.out) k (by omega) (by omega)
            subst exa
            rw [Int.toNat_natCast] at x0 x1 x2 x3 x4 x5 x6
            have xbl := World.block_lt_of_cell? _ _ x0
            have HC6 := Aside0.mk hC6
            clear hC6
            go_wp2_with fail
            refine (IH.out _ hmem A6 c6 ks A2 c2 _ HC6.out (Kd.C_below HK2.out HB.out)).mono ?_
            rintro e1 w5 ⟨n5, m5, rfl, hb5⟩
            have HL5 := Aside0.mk (Kd.R_below HL.out hb5)
            have HB5 := Aside0.mk (below_step HB.out hb5)
            have HX5 := Aside0.mk (blk_below HX.out hb5)
            clear HL HB HX hb5 p0 p1 p2 p3 p4 p5 p6 pl x0 x1 x2 x3 x4 x5 x6 xbl
            by_cases hm : m5 = 0
            · subst hm
              go_wp2_with (at_builtin; refine Kd.R_append (Kd.int .i64) (w0 := w) w.heap.size rfl (.tmp 61) (.tmp 63) 23 3 (.int .i64 0) 8 rfl Tryz.underlying23 info3 rfl (by decide) (by omega) u8 l n5 [.int .i64 n5] (fun _ => True) (fun _ => False) rfl rfl (show (Kd.int .i64).M _ _ _ _ _ from rfl) (fun _ hk => hk.elim) (fun _ _ => trivial) ?aO ?aB ?aS ?aL ?_; (case aO => exact HL5.out); (case aB => exact HB5.out); (case aS => exact HB5.out.size); (case aL => exact (by have := HLL.out; omega)); intro v1 w6 ho hb hg hat; skip)
              exact ⟨⟨k + 1, l ++ [n5], by go_num, h1, by have := HLL.out; simp; omega, ⟨ho⟩, ⟨hb⟩, ⟨blk_grown HX5.out hg (R_apart HL5.out HX5.out (by intro cs e; injection e with _ e2; cases e2))⟩⟩, by simp [intOf]; omega⟩
            · have hm1 : (m5 != 0) = true := by simpa using hm
              go_wp2
              go_ret2
              exact ii_mk rfl HB5.out
          · obtain ⟨A8, c8, rfl⟩ := Kd.R_slice HL.out
            have hr8 := Kd.R_reads' HL.out
            go_wp2_with fail
            refine (q211 e A c A8 _ c8 l A2 _ c2 ks _ hr8.2.2 hr8.2.1 (Kd.C_below HK2.out HB.out) HOP.out (fun h => by have := HF22.out h; have := HLL.out; omega)).mono ?_
            rintro e1 w7 ⟨n7, b7, rfl, hb7⟩
            have HB7 := Aside0.mk (bthen HB.out hb7)
            go_wp2
            all_goals
              go_ret2
              exact ii_mk rfl HB7.out
set_option maxHeartbeats 600000 in
theorem q158 {e : S191} (he : EIn e) (A : Option Addr) (c : Nat) (ks : List Int) (A2 : Option Addr) (c2 : Nat) (w : World) (hC : k191.C w A e.f4.length e.f4) (hK2 : (Kd.int .i64).C w A2 ks.length ks) : Calls Tryz.prog 158 #[.agg #[.int .i64 e.f0, .int .i64 e.f1, .int .i64 e.f2.f0, .int .i64 e.f2.f1, .string e.f2.f2, .string e.f3, .slice A e.f4.length c], .slice A2 ks.length c2] w (IIRes w) := by
  have hb0 : Below w.heap.size w (w.alloc (.cells #[.int .i64 e.f0, .int .i64 e.f1, .int .i64 e.f2.f0, .int .i64 e.f2.f1, .string e.f2.f2, .string e.f3, .slice A e.f4.length c] 191)) := below_alloc (Below.refl _ _) _
  have hbx : (w.alloc (.cells #[.int .i64 e.f0, .int .i64 e.f1, .int .i64 e.f2.f0, .int .i64 e.f2.f1, .string e.f2.f2, .string e.f3, .slice A e.f4.length c] 191)).heap[w.heap.size]? = some (.cells #[.int .i64 e.f0, .int .i64 e.f1, .int .i64 e.f2.f0, .int .i64 e.f2.f1, .string e.f2.f2, .string e.f3, .slice A e.f4.length c] 191 (0, 0)) := blk_new _ _
  have HK := Aside0.mk hC
  have HK2 := Aside0.mk hK2
  clear hC hK2
  go_enter Tryz.func158, Tryz.ntmps158
  go_wp2_with fail
  refine (q180 he A c _ (Kd.C_below HK.out hb0)).mono ?_
  rintro e1 w1 ⟨n1, rfl, hb1⟩
  have hpb := blk_below hbx hb1
  have p0 : (w1).cell? ⟨w.heap.size, 0, none⟩ = some (.int .i64 e.f0) := by rw [blk_cell hpb]; rfl
  have p1 : (w1).cell? ⟨w.heap.size, 1, none⟩ = some (.int .i64 e.f1) := by rw [blk_cell hpb]; rfl
  have p2 : (w1).cell? ⟨w.heap.size, 2, none⟩ = some (.int .i64 e.f2.f0) := by rw [blk_cell hpb]; rfl
  have p3 : (w1).cell? ⟨w.heap.size, 3, none⟩ = some (.int .i64 e.f2.f1) := by rw [blk_cell hpb]; rfl
  have p4 : (w1).cell? ⟨w.heap.size, 4, none⟩ = some (.string e.f2.f2) := by rw [blk_cell hpb]; rfl
  have p5 : (w1).cell? ⟨w.heap.size, 5, none⟩ = some (.string e.f3) := by rw [blk_cell hpb]; rfl
  have p6 : (w1).cell? ⟨w.heap.size, 6, none⟩ = some (.slice A e.f4.length c) := by rw [blk_cell hpb]; rfl
  have pl := World.block_lt_of_cell? _ _ p0
  have HB1 := Aside0.mk (bel1 hb1)
  clear hpb hb1 hb0 hbx
  go_wp2_with (go_at_call 181; refine (q181 he A c ks A2 c2 _ (Kd.C_below HK.out HB1.out) (Kd.C_below HK2.out HB1.out)).mono ?_; rintro e1 w2 ⟨n2, m2, rfl, hb2⟩)
  all_goals
    go_ret2
    first | exact ii_mk rfl HB1.out | exact ii_mk rfl (bthen HB1.out hb2)
end Go.Proofs.YtiamihkfphmohaaGreatDoor.PA

namespace Go.Proofs.YtiamihkfphmohaaGreatDoor.PA
open Go.RowKit Go.Proofs.YtiamihkfphmohaaGreatDoorW.PrintWords Go.Proofs.YtiamihkfphmohaaGreatDoorW.PrintLast Go.Proofs.YtiamihkfphmohaaGreatDoorW.PrintMore

def kindsT (t : Tbl) : List Int := t.cols.map S80.f1
set_option maxHeartbeats 600000 in
theorem q84 (t : Tbl) (A1 A2 A3 A4 : Option Addr) (c1 c2 c3 c4 : Nat) (w : World) (hT : TK w t A1 A2 A3 A4 c1 c2 c3 c4) (hI : TIn t) (hc : t.cols.length ≤ 1000) : Calls Tryz.prog 84 #[.agg #[.string t.nm, .slice A1 t.cols.length c1, .slice A2 t.key.length c2, .slice A3 t.fors.length c3, .slice A4 t.chks.length c4]] w fun e w' => ∃ v, e = .returned v ∧ (Kd.int .i64).R 3 w' w.heap.size (fun _ => True) v (kindsT t) ∧ Below w.heap.size w w' := by
  have hTK := hT
  go_enter Tryz.func84, Tryz.ntmps84
  have hb0 : Below w.heap.size w (w.alloc (.cells #[.string t.nm, .slice A1 t.cols.length c1, .slice A2 t.key.length c2, .slice A3 t.fors.length c3, .slice A4 t.chks.length c4] 27)) := below_alloc (Below.refl _ _) _
  have hbx : (w.alloc (.cells #[.string t.nm, .slice A1 t.cols.length c1, .slice A2 t.key.length c2, .slice A3 t.fors.length c3, .slice A4 t.chks.length c4] 27)).heap[w.heap.size]? = some (.cells #[.string t.nm, .slice A1 t.cols.length c1, .slice A2 t.key.length c2, .slice A3 t.fors.length c3, .slice A4 t.chks.length c4] 27 (0, 0)) := blk_new _ _
  have HB := Aside0.mk hb0
  have HX := Aside0.mk hbx
  have HK := Aside0.mk (hT.below hb0)
  have HI := Lib.hid hI
  clear hbx hT hI
  have HO := Aside0.mk (R_made (d := Kd.int .i64) (e := 3) (size := 1) (w := (w.alloc (.cells #[.string t.nm, .slice A1 t.cols.length c1, .slice A2 t.key.length c2, .slice A3 t.fors.length c3, .slice A4 t.chks.length c4] 27)).alloc (.cells #[] 3)) (base := (w.alloc (.cells #[.string t.nm, .slice A1 t.cols.length c1, .slice A2 t.key.length c2, .slice A3 t.fors.length c3, .slice A4 t.chks.length c4] 27)).heap.size) (v := .slice (some ⟨(w.alloc (.cells #[.string t.nm, .slice A1 t.cols.length c1, .slice A2 t.key.length c2, .slice A3 t.fors.length c3, .slice A4 t.chks.length c4] 27)).heap.size, 0, none⟩) 0 0) rfl (by have h := World.ownsRow_lit (base := (w.alloc (.cells #[.string t.nm, .slice A1 t.cols.length c1, .slice A2 t.key.length c2, .slice A3 t.fors.length c3, .slice A4 t.chks.length c4] 27)).heap.size) (e := 3) (size := 1) (w.alloc (.cells #[.string t.nm, .slice A1 t.cols.length c1, .slice A2 t.key.length c2, .slice A3 t.fors.length c3, .slice A4 t.chks.length c4] 27)) #[] 0 (Nat.le_refl _) (by simp [maxLen]) (by simp); simpa using h))
  have hsw := hb0.size
  clear hb0
  go_wp2
  have hsz1 : w.heap.size + 1 = (w.alloc (.cells #[.string t.nm, .slice A1 t.cols.length c1, .slice A2 t.key.length c2, .slice A3 t.fors.length c3, .slice A4 t.chks.length c4] 27)).heap.size := by simp
  try rw [hsz1]
  clear hsz1
  generalize w.alloc (.cells #[.string t.nm, .slice A1 t.cols.length c1, .slice A2 t.key.length c2, .slice A3 t.fors.length c3, .slice A4 t.chks.length c4] 27) = W0 at *
  have HB2 := Aside0.mk (below_alloc HB.out (.cells #[] 3))
  have HX2 := Aside0.mk (blk_alloc HX.out (.cells #[] 3))
  go_loopw [3, 4] (fun v i wr => ∃ k : Nat, i = .int .i64 k ∧ k ≤ t.cols.length ∧ Aside0 ((Kd.int .i64).R 3 wr w.heap.size (fun _ => True) v ((t.cols.take k).map S80.f1)) ∧ Aside0 (Below w.heap.size w wr) ∧ Aside0 (wr.heap[w.heap.size]? = some (.cells #[.string t.nm, .slice A1 t.cols.length c1, .slice A2 t.key.length c2, .slice A3 t.fors.length c3, .slice A4 t.chks.length c4] 27 (0, 0)))) (fun _ i _ => t.cols.length - (intOf i).toNat)
  case atStart => exact ⟨0, rfl, Nat.zero_le _, ⟨Kd.R_lower HO.out hsw⟩, HB2, HX2⟩
  case round =>
    clear HB2 HX2 HO HB HX HK
    obtain ⟨k, rfl, hk', HL, HB, HX⟩ := hrel
    have t1 : (wr).cell? ⟨w.heap.size, 1, none⟩ = some (.slice A1 t.cols.length c1) := by rw [blk_cell HX.out]; rfl
    have tl := World.block_lt_of_cell? _ _ t1
    by_cases h1 : k < t.cols.length
    · have hk1 : (0 : Int) ≤ k := by omega
      have hk2 : (k : Int) < t.cols.length := by omega
      have hst := Lib.hid (show (t.cols.take (k + 1)).map S80.f1 = (t.cols.take k).map S80.f1 ++ [(rd_T80 t.cols k).f1] from by rw [take_step h1, List.map_append]; simp [rd_T80, h1])
      obtain ⟨xa, exa, x0, x1, x2⟩ := at_T80 (Kd.C_below hTK.cols HB.out) k (by omega) (by omega)
      subst exa
      rw [Int.toNat_natCast] at x1
      have xbl := World.block_lt_of_cell? _ _ x1
      go_wp2_with (at_builtin; refine Kd.R_append (Kd.int .i64) (w0 := w) w.heap.size rfl (.tmp 13) (.tmp 20) 23 3 (.int .i64 0) 8 rfl Tryz.underlying23 info3 rfl (by decide) (by omega) u3 ((t.cols.take k).map S80.f1) (rd_T80 t.cols k).f1 [.int .i64 (rd_T80 t.cols k).f1] (fun _ => True) (fun _ => False) rfl rfl (show (Kd.int .i64).M _ _ _ _ _ from rfl) (fun _ hk => hk.elim) (fun _ _ => trivial) ?aO ?aB ?aS ?aL ?_; (case aO => exact HL.out); (case aB => exact HB.out); (case aS => exact HB.out.size); (case aL => exact (by rw [List.length_map, List.length_take]; omega)); intro v1 w6 ho hb hg hat; skip)
      exact ⟨⟨k + 1, by go_num, h1, ⟨by rw [hst.out]; exact ho⟩, ⟨hb⟩, ⟨blk_grown HX.out hg (R_apart HL.out HX.out (by intro cs e; injection e with _ e2; cases e2))⟩⟩, by simp [intOf]; omega⟩
    · go_wp2
      go_ret
      exact ⟨_, rfl, by rw [List.take_of_length_le (by omega)] at HL; exact HL.out, HB.out⟩
end Go.Proofs.YtiamihkfphmohaaGreatDoor.PA

namespace Go.Proofs.YtiamihkfphmohaaGreatDoor.PA
open Go.RowKit Go.Proofs.YtiamihkfphmohaaGreatDoorW.PrintWords Go.Proofs.YtiamihkfphmohaaGreatDoorW.PrintLast Go.Proofs.YtiamihkfphmohaaGreatDoorW.PrintMore

open Go.Sort
attribute [local irreducible] Go.wpQuiet
theorem below_gr (w : World) (n : Nat) (os : Array Obj) : Below w.heap.size w (grow (w.drewN n) os) := by
  refine ⟨rfl, rfl, rfl, ?_, fun k hk => ?_⟩
  · rw [size_grow]; exact Nat.le_add_right _ _
  · show (w.heap ++ os)[k]? = _
    rw [Array.getElem?_append_left hk]
theorem gr_lt {w : World} {b : Nat} (h : b < w.heap.size) (n : Nat) (os : Array Obj) : b < (grow (w.drewN n) os).heap.size := by
  rw [size_grow]; exact Nat.lt_of_lt_of_le h (Nat.le_add_right _ _)
theorem mixedT : Tryz.prog.follows .mixedOrders = true := by kernel_rfl
theorem ent156 : ∀ args w, (callFunc 156 args).run Tryz.prog w = .ok (.enter 156 args) w := enters_of Tryz.func156 (by kernel_rfl) rfl
set_option maxHeartbeats 400000 in
theorem q156x (nm : ByteArray) (v2 v3 v4 : Value) (A : Option Addr) (n c : Nat) (i : Int) (b : Bool) (hb : decide (0 ≤ i ∧ i < n) = b) (w : World) : Calls Tryz.prog 156 #[.agg #[.string nm, .slice A n c, v2, v3, v4], .int .i64 i] w fun e w' => e = .returned (.bool b) ∧ ∃ q os', w' = grow (w.drewN q) os' := by
  subst hb
  go_enter Tryz.func156, Tryz.ntmps156
  by_cases h0 : 0 ≤ i
  · by_cases h1 : i < n
    · go_wp2
      go_ret
      exact ⟨rb (by simp [h0, h1]), 0, _, by rw [alloc_eq_grow]; rfl⟩
    · go_wp2
      go_ret
      exact ⟨rb (by simp [h0, h1]), 0, _, by rw [alloc_eq_grow]; rfl⟩
  · go_wp2
    go_ret
    exact ⟨rb (by simp; omega), 0, _, by rw [alloc_eq_grow]; rfl⟩
def KyRes (n m : Nat) (w : World) (e : Ending) (w' : World) : Prop := ∃ x : Int, e = .returned (.int .i64 x) ∧ (x = 0 → n ≤ m) ∧ Below w.heap.size w w'
theorem ky_mk {n m : Nat} {w w' : World} {e : Ending} {x : Int} (he : e = .returned (.int .i64 x)) (h : x = 0 → n ≤ m) (hb : Below w.heap.size w w') : KyRes n m w e w' := ⟨x, he, h, hb⟩
set_option maxHeartbeats 2000000 in
set_option maxRecDepth 100000 in
theorem q122 (t : Tbl) (A1 A2 A3 A4 : Option Addr) (c1 c2 c3 c4 : Nat) (w : World) (hT : TK w t A1 A2 A3 A4 c1 c2 c3 c4) (hI : TIn t) : Calls Tryz.prog 122 #[.agg #[.string t.nm, .slice A1 t.cols.length c1, .slice A2 t.key.length c2, .slice A3 t.fors.length c3, .slice A4 t.chks.length c4]] w (KyRes t.key.length t.cols.length w) := by
  have mixed := mixedT
  have e156 := ent156
  have hTK := hT
  have hml : t.key.length ≤ 9223372036854775807 := by have := hI.keyl; rw [maxl] at this; exact this
  go_enter Tryz.func122, Tryz.ntmps122
  by_cases hz : t.key.length = 0
  · have hz1 : ((t.key.length : Int) == 0) = true := by simp [hz]
    go_wp2
    go_ret
    exact ky_mk rfl (fun h => by omega) (below_alloc (Below.refl _ _) _)
  have hz1 : ((t.key.length : Int) == 0) = false := by rw [beq_eq_false_iff_ne]; omega
  have hb0 : Below w.heap.size w (w.alloc (.cells #[.string t.nm, .slice A1 t.cols.length c1, .slice A2 t.key.length c2, .slice A3 t.fors.length c3, .slice A4 t.chks.length c4] 27)) := below_alloc (Below.refl _ _) _
  have hbx : (w.alloc (.cells #[.string t.nm, .slice A1 t.cols.length c1, .slice A2 t.key.length c2, .slice A3 t.fors.length c3, .slice A4 t.chks.length c4] 27)).heap[w.heap.size]? = some (.cells #[.string t.nm, .slice A1 t.cols.length c1, .slice A2 t.key.length c2, .slice A3 t.fors.length c3, .slice A4 t.chks.length c4] 27 (0, 0)) := blk_new _ _
  have HB := Aside0.mk hb0
  have HX := Aside0.mk hbx
  have HK := Aside0.mk (hT.below hb0)
  have HI := Lib.hid hI
  clear hb0 hbx hT hI
  go_wp2
  generalize w.alloc (.cells #[.string t.nm, .slice A1 t.cols.length c1, .slice A2 t.key.length c2, .slice A3 t.fors.length c3, .slice A4 t.chks.length c4] 27) = W0 at *
  clear hz1 hz HK
  go_loopw [3] (fun i wr => ∃ k : Nat, i = .int .i64 k ∧ k ≤ t.key.length ∧ Aside0 (Below w.heap.size w wr) ∧ Aside0 (wr.heap[w.heap.size]? = some (.cells #[.string t.nm, .slice A1 t.cols.length c1, .slice A2 t.key.length c2, .slice A3 t.fors.length c3, .slice A4 t.chks.length c4] 27 (0, 0))) ∧ Aside0 (∀ j : Nat, j + 1 = k → (j : Int) ≤ rd t.key j ∧ rd t.key j < t.cols.length)) (fun i _ => t.key.length - (intOf i).toNat)
  case atStart => exact ⟨0, rfl, Nat.zero_le _, HB, HX, ⟨fun j h => by omega⟩⟩
  case round =>
    clear HB HX
    obtain ⟨k, rfl, hk', HB, HX, HP⟩ := hrel
    have t0 : (wr).cell? ⟨w.heap.size, 0, none⟩ = some (.string t.nm) := by rw [blk_cell HX.out]; rfl
    have t1 : (wr).cell? ⟨w.heap.size, 1, none⟩ = some (.slice A1 t.cols.length c1) := by rw [blk_cell HX.out]; rfl
    have t2 : (wr).cell? ⟨w.heap.size, 2, none⟩ = some (.slice A2 t.key.length c2) := by rw [blk_cell HX.out]; rfl
    have t3 : (wr).cell? ⟨w.heap.size, 3, none⟩ = some (.slice A3 t.fors.length c3) := by rw [blk_cell HX.out]; rfl
    have t4 : (wr).cell? ⟨w.heap.size, 4, none⟩ = some (.slice A4 t.chks.length c4) := by rw [blk_cell HX.out]; rfl
    have tl : w.heap.size < wr.heap.size := World.block_lt_of_cell? _ _ t1
    by_cases h1 : k < t.key.length
    · have hk1 : (0 : Int) ≤ k := by omega
      have hk2 : (k : Int) < t.key.length := by omega
      obtain ⟨xa, exa, x0⟩ := Kd.at_int (Kd.C_below hTK.key HB.out) k (by omega) (by omega)
      subst exa
      rw [Int.toNat_natCast] at x0
      have xbl : (xa.add k).block < wr.heap.size := World.block_lt_of_cell? _ _ x0
      by_cases hok : 0 ≤ rd t.key k ∧ rd t.key k < t.cols.length
      · have HOK := Lib.hid (decide_eq_true hok)
        have HC := Lib.hid hok
        obtain ⟨xc, exc, z0, z1, z2⟩ := at_T80 (Kd.C_below hTK.cols HB.out) (rd t.key k) hok.1 hok.2
        subst exc
        have zbl : (⟨(xc.add ((rd t.key k).toNat * 3)).block, (xc.add ((rd t.key k).toNat * 3)).off + 2, none⟩ : Addr).block < wr.heap.size := World.block_lt_of_cell? _ _ z2
        have zc0 : (0 : Int) ≤ rd t.key k := hok.1
        have zc1 : rd t.key k < (t.cols.length : Int) := hok.2
        have Z2 := Aside0.mk z2
        clear hok z0 z1 z2
        rcases Nat.eq_zero_or_pos k with hk0 | hk0
        · clear HP
          have hkz : ¬ (0 : Int) < (k : Int) := by omega
          have hkd : decide (0 < k) = false := decide_eq_false (by omega)
          have hkd2 : decide ((k : Int) > 0) = false := decide_eq_false (by omega)
          have hkd3 : decide ((0 : Int) < (k : Int)) = false := decide_eq_false (by omega)
          have HK0 := Lib.hid hk0
          clear hk0
          go_wp2_with fail
          have g0 := cell_grown tl t0
          have g1 := cell_grown tl t1
          have g2 := cell_grown tl t2
          have g3 := cell_grown tl t3
          have g4 := cell_grown tl t4
          have gx := cell_grown xbl x0
          clear t0 t1 t2 t3 t4 x0
          go_quiet_grown ((go_at_fn 156; refine Calls.grown_of (q156x t.nm _ _ _ _ _ _ (rd t.key k) true HOK.out _)))
          have zn := cell_grown (a := ⟨(xc.add ((rd t.key k).toNat * 3)).block, (xc.add ((rd t.key k).toNat * 3)).off + 2, none⟩) zbl Z2.out nq osq
          have u1 := g1 nq osq
          have u2 := g2 nq osq
          have ux := gx nq osq
          have hbg := below_gr wr nq osq
          have ut : w.heap.size < (grow (wr.drewN nq) osq).heap.size := gr_lt tl nq osq
          have uxl : (xa.add k).block < (grow (wr.drewN nq) osq).heap.size := gr_lt xbl nq osq
          have uzl : (⟨(xc.add ((rd t.key k).toNat * 3)).block, (xc.add ((rd t.key k).toNat * 3)).off + 2, none⟩ : Addr).block < (grow (wr.drewN nq) osq).heap.size := gr_lt zbl nq osq
          have HB2 := Aside0.mk (bthen HB.out hbg)
          have HX2 := Aside0.mk (blk_below HX.out hbg)
          clear g0 g1 g2 g3 g4 gx Z2 hbg HX hkd hkd2 hkd3
          generalize grow (wr.drewN nq) osq = w2 at *
          go_wp2_with fail
          clear nq osq
          have g1 := cell_grown ut u1
          have g2 := cell_grown ut u2
          have gx := cell_grown uxl ux
          have gz := cell_grown (a := ⟨(xc.add ((rd t.key k).toNat * 3)).block, (xc.add ((rd t.key k).toNat * 3)).off + 2, none⟩) uzl zn
          clear u1 u2 ux zn
          go_quiet_grown (fail)
          have hbg := below_gr w2 nq osq
          have HB3 := Aside0.mk (bthen HB2.out hbg)
          have HX3 := Aside0.mk (blk_below HX2.out hbg)
          clear g1 g2 gx gz hbg HX2
          generalize grow (w2.drewN nq) osq = w3 at *
          go_wp2
          all_goals first
            | (go_ret; exact ky_mk rfl (fun h => by omega) HB3.out)
            | (refine ⟨⟨k + 1, by go_num, h1, HB3, HX3, ⟨fun j hj => ?_⟩⟩, by simp [intOf]; omega⟩
               have ej : j = k := by omega
               subst ej
               exact ⟨by have := HK0.out; omega, HC.out.2⟩)
        · skip
          have hkz : (0 : Int) < (k : Int) := by omega
          have hkd : decide (0 < k) = true := decide_eq_true (by omega)
          have hkd2 : decide ((k : Int) > 0) = true := decide_eq_true (by omega)
          have hkd3 : decide ((0 : Int) < (k : Int)) = true := decide_eq_true (by omega)
          have hm0 : (0 : Int) ≤ (k : Int) - 1 := by omega
          have hm2 : (1 : Int) ≤ k := by omega
          have hm1 : (k : Int) - 1 < t.key.length := by omega
          have hmw : IntKind.i64.wrap ((k : Int) - 1) = (k : Int) - 1 := IntWalk.i64_in _ (by omega)
          obtain ⟨ya, eya, y0⟩ := Kd.at_int (Kd.C_below hTK.key HB.out) ((k : Int) - 1) hm0 hm1
          obtain rfl : xa = ya := by injection eya
          have etn : ((k : Int) - 1).toNat = k - 1 := by omega
          rw [etn] at y0
          have ybl : (xa.add (k - 1)).block < wr.heap.size := World.block_lt_of_cell? _ _ y0
          have HK0 := Lib.hid hk0
          have HPK := HP.out (k - 1) (by omega)
          have ekk : ((k - 1 : Nat) : Int) = (k : Int) - 1 := by omega
          rw [ekk] at HPK
          clear hk0 eya ekk etn
          by_cases hgt : rd t.key k ≤ rd t.key ((k : Int) - 1)
          · skip
            have hle : decide (rd t.key k ≤ rd t.key ((k : Int) - 1)) = true := decide_eq_true hgt
            have HGT := Lib.hid hgt
            go_wp2_with fail
            have g0 := cell_grown tl t0
            have g1 := cell_grown tl t1
            have g2 := cell_grown tl t2
            have g3 := cell_grown tl t3
            have g4 := cell_grown tl t4
            have gx := cell_grown xbl x0
            have gy := cell_grown ybl y0
            clear y0
            clear t0 t1 t2 t3 t4 x0
            go_quiet_grown ((go_at_fn 156; refine Calls.grown_of (q156x t.nm _ _ _ _ _ _ (rd t.key k) true HOK.out _)))
            have hbg := below_gr wr nq osq
            have HB2 := Aside0.mk (bthen HB.out hbg)
            clear gy g0 g1 g2 g3 g4 gx hbg
            generalize grow (wr.drewN nq) osq = w2 at *
            go_wp2
            go_ret
            exact ky_mk rfl (fun h => by omega) HB2.out
          · skip
            have hle : decide (rd t.key k ≤ rd t.key ((k : Int) - 1)) = false := decide_eq_false hgt
            have HGT := Lib.hid hgt
            clear hgt
            go_wp2_with fail
            have g0 := cell_grown tl t0
            have g1 := cell_grown tl t1
            have g2 := cell_grown tl t2
            have g3 := cell_grown tl t3
            have g4 := cell_grown tl t4
            have gx := cell_grown xbl x0
            have gy := cell_grown ybl y0
            clear y0
            clear t0 t1 t2 t3 t4 x0
            go_quiet_grown ((go_at_fn 156; refine Calls.grown_of (q156x t.nm _ _ _ _ _ _ (rd t.key k) true HOK.out _)))
            have zn := cell_grown (a := ⟨(xc.add ((rd t.key k).toNat * 3)).block, (xc.add ((rd t.key k).toNat * 3)).off + 2, none⟩) zbl Z2.out nq osq
            have u1 := g1 nq osq
            have u2 := g2 nq osq
            have ux := gx nq osq
            have hbg := below_gr wr nq osq
            have ut : w.heap.size < (grow (wr.drewN nq) osq).heap.size := gr_lt tl nq osq
            have uxl : (xa.add k).block < (grow (wr.drewN nq) osq).heap.size := gr_lt xbl nq osq
            have uzl : (⟨(xc.add ((rd t.key k).toNat * 3)).block, (xc.add ((rd t.key k).toNat * 3)).off + 2, none⟩ : Addr).block < (grow (wr.drewN nq) osq).heap.size := gr_lt zbl nq osq
            have HB2 := Aside0.mk (bthen HB.out hbg)
            have HX2 := Aside0.mk (blk_below HX.out hbg)
            clear g0 g1 g2 g3 g4 gx Z2 hbg HX gy hkd hkd2 hkd3
            generalize grow (wr.drewN nq) osq = w2 at *
            go_wp2_with fail
            clear nq osq
            have g1 := cell_grown ut u1
            have g2 := cell_grown ut u2
            have gx := cell_grown uxl ux
            have gz := cell_grown (a := ⟨(xc.add ((rd t.key k).toNat * 3)).block, (xc.add ((rd t.key k).toNat * 3)).off + 2, none⟩) uzl zn
            clear u1 u2 ux zn
            go_quiet_grown (fail)
            have hbg := below_gr w2 nq osq
            have HB3 := Aside0.mk (bthen HB2.out hbg)
            have HX3 := Aside0.mk (blk_below HX2.out hbg)
            clear g1 g2 gx gz hbg HX2
            generalize grow (w2.drewN nq) osq = w3 at *
            go_wp2
            all_goals first
              | (go_ret; exact ky_mk rfl (fun h => by omega) HB3.out)
              | (refine ⟨⟨k + 1, by go_num, h1, HB3, HX3, ⟨fun j hj => ?_⟩⟩, by simp [intOf]; omega⟩
                 have ej : j = k := by omega
                 subst ej
                 exact ⟨by have := HGT.out; have := HPK.1; omega, HC.out.2⟩)
      · skip
        have HOK := Lib.hid (decide_eq_false hok)
        clear hok
        go_wp2_with fail
        have g0 := cell_grown tl t0
        have g1 := cell_grown tl t1
        have g2 := cell_grown tl t2
        have g3 := cell_grown tl t3
        have g4 := cell_grown tl t4
        have gx := cell_grown xbl x0
        clear t0 t1 t2 t3 t4 x0
        go_quiet_grown ((go_at_fn 156; refine Calls.grown_of (q156x t.nm _ _ _ _ _ _ (rd t.key k) false HOK.out _)))
        have hbg := below_gr wr nq osq
        have HB2 := Aside0.mk (bthen HB.out hbg)
        clear g0 g1 g2 g3 g4 gx hbg
        generalize grow (wr.drewN nq) osq = w2 at *
        go_wp2
        go_ret
        exact ky_mk rfl (fun h => by omega) HB2.out
    · go_wp2
      go_ret
      refine ky_mk rfl (fun _ => ?_) HB.out
      rcases Nat.eq_zero_or_pos k with h0 | h0
      · omega
      · have := HP.out (k - 1) (by omega)
        omega
end Go.Proofs.YtiamihkfphmohaaGreatDoor.PA

namespace Go.Proofs.YtiamihkfphmohaaGreatDoor.PA
open Go.RowKit Go.Proofs.YtiamihkfphmohaaGreatDoorW.PrintWords Go.Proofs.YtiamihkfphmohaaGreatDoorW.PrintLast Go.Proofs.YtiamihkfphmohaaGreatDoorW.PrintMore

open Go.Sort
attribute [local irreducible] Go.wpQuiet
theorem toNat_cast (k : Nat) : ((k : Int)).toNat = k := Int.toNat_natCast k
set_option maxHeartbeats 2000000 in
set_option maxRecDepth 100000 in
theorem q157 (t : Tbl) (A1 A2 A3 A4 : Option Addr) (c1 c2 c3 c4 : Nat) (f : S64) (AF : Option Addr) (cf : Nat) (w : World) (hT : TK w t A1 A2 A3 A4 c1 c2 c3 c4) (hI : TIn t) (hF : (Kd.int .i64).C w AF f.f0.length f.f0) (hO : OIn f) : Calls Tryz.prog 157 #[.agg #[.string t.nm, .slice A1 t.cols.length c1, .slice A2 t.key.length c2, .slice A3 t.fors.length c3, .slice A4 t.chks.length c4], .agg #[.slice AF f.f0.length cf, .string f.f1]] w (IntRes w) := by
  have mixed := mixedT
  have e156 := ent156
  have hml : f.f0.length ≤ 9223372036854775807 := by have := hO.1; rw [maxl] at this; exact this
  have hns : f.f1.size ≤ 9223372036854775807 := by have := hO.2.2; rw [maxl] at this; exact this
  clear hT hI hO
  have hsz : (w.alloc (.cells #[.string t.nm, .slice A1 t.cols.length c1, .slice A2 t.key.length c2, .slice A3 t.fors.length c3, .slice A4 t.chks.length c4] 27)).heap.size = w.heap.size + 1 := by simp
  have hpt := blk_alloc (blk_new w (.cells #[.string t.nm, .slice A1 t.cols.length c1, .slice A2 t.key.length c2, .slice A3 t.fors.length c3, .slice A4 t.chks.length c4] 27)) (.cells #[.slice AF f.f0.length cf, .string f.f1] 64)
  have hpf := blk_new (w.alloc (.cells #[.string t.nm, .slice A1 t.cols.length c1, .slice A2 t.key.length c2, .slice A3 t.fors.length c3, .slice A4 t.chks.length c4] 27)) (.cells #[.slice AF f.f0.length cf, .string f.f1] 64)
  rw [hsz] at hpf
  go_enter Tryz.func157, Tryz.ntmps157
  go_wp2_with fail
  refine (q120 _ hns _).mono ?_
  rintro e w1 ⟨b1, rfl, hb1⟩
  have HB := Aside0.mk (bel2 hb1)
  have HX := Aside0.mk (blk_below hpt hb1)
  have HY := Aside0.mk (blk_below hpf hb1)
  have HF := Aside0.mk hF
  clear hb1 hpt hpf hF hsz
  have f0 : (w1).cell? ⟨w.heap.size + 1, 0, none⟩ = some (.slice AF f.f0.length cf) := by rw [blk_cell HY.out]; rfl
  have f1 : (w1).cell? ⟨w.heap.size + 1, 1, none⟩ = some (.string f.f1) := by rw [blk_cell HY.out]; rfl

  cases b1 with
  | false =>
    go_wp2
    go_ret
    exact int_mk rfl HB.out
  | true =>
  by_cases hz : f.f0.length = 0
  · have hz1 : ((f.f0.length : Int) == 0) = true := by simp [hz]
    go_wp2
    go_ret
    exact int_mk rfl HB.out
  have hz1 : ((f.f0.length : Int) == 0) = false := by rw [beq_eq_false_iff_ne]; omega
  go_wp2
  clear hz1 hz f0 f1
  go_loopw [5] (fun i wr => ∃ k : Nat, i = .int .i64 k ∧ k ≤ f.f0.length ∧ Aside0 (Below w.heap.size w wr) ∧ Aside0 (wr.heap[w.heap.size]? = some (.cells #[.string t.nm, .slice A1 t.cols.length c1, .slice A2 t.key.length c2, .slice A3 t.fors.length c3, .slice A4 t.chks.length c4] 27 (0, 0))) ∧ Aside0 (wr.heap[w.heap.size + 1]? = some (.cells #[.slice AF f.f0.length cf, .string f.f1] 64 (0, 0)))) (fun i _ => f.f0.length - (intOf i).toNat)
  case atStart => exact ⟨0, rfl, Nat.zero_le _, HB, HX, HY⟩
  case round =>
    clear HB HX HY
    obtain ⟨k, rfl, hk', HB, HX, HY⟩ := hrel
    have wsz : w.heap.size < wr.heap.size := blk_lt HX.out
    have wsz1 : w.heap.size + 1 < wr.heap.size := blk_lt HY.out
    have t0 : (wr).cell? ⟨w.heap.size, 0, none⟩ = some (.string t.nm) := by rw [blk_cell HX.out]; rfl
    have t1 : (wr).cell? ⟨w.heap.size, 1, none⟩ = some (.slice A1 t.cols.length c1) := by rw [blk_cell HX.out]; rfl
    have t2 : (wr).cell? ⟨w.heap.size, 2, none⟩ = some (.slice A2 t.key.length c2) := by rw [blk_cell HX.out]; rfl
    have t3 : (wr).cell? ⟨w.heap.size, 3, none⟩ = some (.slice A3 t.fors.length c3) := by rw [blk_cell HX.out]; rfl
    have t4 : (wr).cell? ⟨w.heap.size, 4, none⟩ = some (.slice A4 t.chks.length c4) := by rw [blk_cell HX.out]; rfl
    have f0 : (wr).cell? ⟨w.heap.size + 1, 0, none⟩ = some (.slice AF f.f0.length cf) := by rw [blk_cell HY.out]; rfl
    have f1 : (wr).cell? ⟨w.heap.size + 1, 1, none⟩ = some (.string f.f1) := by rw [blk_cell HY.out]; rfl
    by_cases h1 : k < f.f0.length
    · have hk1 : (0 : Int) ≤ k := by omega
      have hk2 : (k : Int) < f.f0.length := by omega
      obtain ⟨xa, exa, x0⟩ := Kd.at_int (Kd.C_below HF.out HB.out) k (by omega) (by omega)
      subst exa
      rw [Int.toNat_natCast] at x0
      have xbl : (xa.add k).block < wr.heap.size := World.block_lt_of_cell? _ _ x0
      by_cases hok : 0 ≤ rd f.f0 k ∧ rd f.f0 k < t.cols.length
      · have HOK := Lib.hid (decide_eq_true hok)
        clear hok
        go_wp2_with fail
        have g0 := cell_grown wsz t0
        have g1 := cell_grown wsz t1
        have g2 := cell_grown wsz t2
        have g3 := cell_grown wsz t3
        have g4 := cell_grown wsz t4
        have gf := cell_grown wsz1 f0
        have gx := cell_grown xbl x0
        clear t0 t1 t2 t3 t4 f0 f1 x0
        go_quiet_grown ((go_at_fn 156; refine Calls.grown_of (q156x t.nm _ _ _ _ _ _ (rd f.f0 k) true HOK.out _)))
        have hbg := below_gr wr nq osq
        have HB2 := Aside0.mk (bthen HB.out hbg)
        have HX2 := Aside0.mk (blk_below HX.out hbg)
        have HY2 := Aside0.mk (blk_below HY.out hbg)
        clear g0 g1 g2 g3 g4 gf gx hbg wsz wsz1 xbl
        generalize grow (wr.drewN nq) osq = w2 at *
        go_wp2
        go_loopw [6] (fun i wr => ∃ j : Nat, i = .int .i64 j ∧ j ≤ k ∧ Aside0 (Below w.heap.size w wr) ∧ Aside0 (wr.heap[w.heap.size]? = some (.cells #[.string t.nm, .slice A1 t.cols.length c1, .slice A2 t.key.length c2, .slice A3 t.fors.length c3, .slice A4 t.chks.length c4] 27 (0, 0))) ∧ Aside0 (wr.heap[w.heap.size + 1]? = some (.cells #[.slice (some xa) f.f0.length cf, .string f.f1] 64 (0, 0)))) (fun i _ => k - (intOf i).toNat)
        case atStart => exact ⟨0, rfl, Nat.zero_le _, HB2, HX2, HY2⟩
        case round =>
          clear HB2 HX2 HY2 HB HX HY
          rename_i wr0 w20 _ _ _ _ _ _
          obtain ⟨j, rfl, hj', HB, HX, HY⟩ := hrel
          have wsz1 : w.heap.size + 1 < wr.heap.size := blk_lt HY.out
          have f0 : wr.cell? ⟨w.heap.size + 1, 0, none⟩ = some (.slice (some xa) f.f0.length cf) := by rw [blk_cell HY.out]; rfl
          obtain ⟨ya, eya, x0⟩ := Kd.at_int (Kd.C_below HF.out HB.out) k (by omega) (by omega)
          obtain rfl : xa = ya := by injection eya
          rw [Int.toNat_natCast] at x0
          have xbl : (xa.add k).block < wr.heap.size := World.block_lt_of_cell? _ _ x0
          by_cases j1 : j < k
          · have hj1 : (0 : Int) ≤ j := by omega
            have hj2 : (j : Int) < f.f0.length := by omega
            obtain ⟨za, eza, y0⟩ := Kd.at_int (Kd.C_below HF.out HB.out) j (by omega) (by omega)
            obtain rfl : xa = za := by injection eza
            rw [Int.toNat_natCast] at y0
            have ybl : (xa.add j).block < wr.heap.size := World.block_lt_of_cell? _ _ y0
            go_wp2_with fail
            have gf := cell_grown wsz1 f0
            have gx := cell_grown xbl x0
            have gy := cell_grown ybl y0
            clear f0 x0 y0
            go_quiet_grown (fail)
            have hbg := below_gr wr nq osq
            have HB2 := Aside0.mk (bthen HB.out hbg)
            have HX2 := Aside0.mk (blk_below HX.out hbg)
            have HY2 := Aside0.mk (blk_below HY.out hbg)
            clear gf gx gy hbg wsz1 xbl ybl
            generalize grow (wr.drewN nq) osq = w2 at *
            go_wp2
            all_goals first
              | (go_ret; exact int_mk rfl HB2.out)
              | exact ⟨⟨j + 1, by go_num, j1, HB2, HX2, HY2⟩, by simp [intOf]; omega⟩
          · have j2 : j = k := by omega
            go_wp2
            exact ⟨⟨k + 1, by go_num, h1, HB, HX, HY⟩, by simp [intOf]; omega⟩
      · have HOK := Lib.hid (decide_eq_false hok)
        clear hok
        go_wp2_with fail
        have g0 := cell_grown wsz t0
        have g1 := cell_grown wsz t1
        have g2 := cell_grown wsz t2
        have g3 := cell_grown wsz t3
        have g4 := cell_grown wsz t4
        have gf := cell_grown wsz1 f0
        have gx := cell_grown xbl x0
        clear t0 t1 t2 t3 t4 f0 f1 x0
        go_quiet_grown ((go_at_fn 156; refine Calls.grown_of (q156x t.nm _ _ _ _ _ _ (rd f.f0 k) false HOK.out _)))
        have hbg := below_gr wr nq osq
        have HB2 := Aside0.mk (bthen HB.out hbg)
        clear g0 g1 g2 g3 g4 gf gx hbg wsz wsz1 xbl
        generalize grow (wr.drewN nq) osq = w2 at *
        go_wp2
        go_ret
        exact int_mk rfl HB2.out
    · go_wp2
      go_ret
      exact int_mk rfl HB.out
end Go.Proofs.YtiamihkfphmohaaGreatDoor.PA
