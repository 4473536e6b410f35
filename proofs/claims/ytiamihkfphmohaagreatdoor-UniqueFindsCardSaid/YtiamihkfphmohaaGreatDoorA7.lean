import Derived.Lib.ItoaLen
import Derived.Shelf.SlSortCmp.QuietGrown
import Derived.Deep.RegionHeld3
import Derived.Lib.Hide
import Derived.WalkLawsBesides
import Derived.WalkSpells
import Derived.IntWalk
import Derived.Test.YtiamihkfphmohaaGreatDoorRows
import Derived.WalkKit
import Derived.ProofKit
import Derived.OpenShut
import Derived.Carry
import Derived.Deep.DeepHandedRow
import Derived.Lib.LaidTab
import Derived.Stop.LaidErr
import Derived.Test.YtiamihkfphmohaaGreatDoorShelf
import Derived.Test.YtiamihkfphmohaaGreatDoorA6
import Derived.Test.YtiamihkfphmohaaGreatDoorA5
import Derived.Test.YtiamihkfphmohaaGreatDoorA4
import Derived.Test.YtiamihkfphmohaaGreatDoorA3
set_option linter.unusedVariables false
set_option linter.unusedSimpArgs false

namespace Go.Proofs.YtiamihkfphmohaaGreatDoor.PA
open Go.RowKit Go.Proofs.YtiamihkfphmohaaGreatDoorW.PrintWords Go.Proofs.YtiamihkfphmohaaGreatDoorW.PrintLast Go.Proofs.YtiamihkfphmohaaGreatDoorW.PrintMore

/-! ### The chapter's examples, plainly -/
def aV : S82 := ⟨1, 1, ⟨#[]⟩⟩
def aX : S82 := ⟨2, 0, ⟨#[120]⟩⟩
def aY : S82 := ⟨2, 0, ⟨#[121]⟩⟩
def aR1 : List S82 := [aV, aX]
def aR2 : List S82 := [aV, aY]
def aGood : List S58 := [⟨aR1, ⟨0, 5⟩⟩, ⟨aR2, ⟨5, 9⟩⟩]
def aBad : List S58 := [⟨aR1, ⟨0, 5⟩⟩, ⟨aR2, ⟨4, 9⟩⟩]
def aKey : List S82 := [aV]
theorem a12 : rcmp aR1 aR2 = -1 := by
  have h1 : vcmp aV aV = 0 := vcmp_ord.refl _
  have h2 : vcmp aX aY = -1 := by
    unfold vcmp aX aY
    simp only [if_true]
    rw [tcmp_lex]
    decide
  unfold aR1 aR2
  rw [rcmp, if_pos h1, rcmp, if_neg (by rw [h2]; decide), h2]
theorem a21 : rcmp aR2 aR1 = 1 := by rw [rcmp_ord.neg, a12]; rfl
theorem aq11 : req aR1 aR1 = true := req_iff.2 rfl
theorem aq22 : req aR2 aR2 = true := req_iff.2 rfl
theorem aq12 : req aR1 aR2 = false := by unfold req; rw [a12]; rfl
theorem aq21 : req aR2 aR1 = false := by unfold req; rw [a21]; rfl
theorem ane : aR1 ≠ aR2 := fun h => by have := req_iff.2 h; rw [aq12] at this; cases this
theorem apick1 : pick aR1 [0] = aKey := rfl
theorem apick2 : pick aR2 [0] = aKey := rfl
theorem aperG (s : List UInt8) : perS [0] aGood s = if encK aKey = s then [⟨0, 5⟩, ⟨5, 9⟩] else [] := by
  unfold perS aGood
  by_cases h : encK aKey = s
  · rw [if_pos h]; simp [apick1, apick2, h]
  · rw [if_neg h]; simp [apick1, apick2, h]
theorem aperB (s : List UInt8) : perS [0] aBad s = if encK aKey = s then [⟨0, 5⟩, ⟨4, 9⟩] else [] := by
  unfold perS aBad
  by_cases h : encK aKey = s
  · rw [if_pos h]; simp [apick1, apick2, h]
  · rw [if_neg h]; simp [apick1, apick2, h]
theorem pc_d (a b t : Int) (h : 0 ≤ a ∧ a < b ∧ b ≤ 1099511627776) : pc ⟨a, b⟩ t = decide (a ≤ t ∧ t < b) := by
  unfold pc
  rw [pv_iff.2 h, Bool.true_and]
theorem aHoldsG : HoldsP [0] aGood := by
  intro s
  rw [aperG]
  split
  · intro t h1 h2 h3
    simp only [cnt, pc_d 0 5 t (by omega), pc_d 5 9 t (by omega)] at h3
    by_cases h4 : t < 5
    · rw [decide_eq_false (show ¬ (5 ≤ t ∧ t < 9) by omega)] at h3
      revert h3
      by_cases h5 : 0 ≤ t ∧ t < 5 <;> simp [h5]
    · rw [decide_eq_false (show ¬ (0 ≤ t ∧ t < 5) by omega)] at h3
      revert h3
      by_cases h5 : 5 ≤ t ∧ t < 9 <;> simp [h5]
  · exact nocrowd_nil
theorem aHoldsB : ¬ HoldsP [0] aBad := by
  intro h
  have h1 := h (encK aKey)
  rw [aperB, if_pos rfl] at h1
  refine h1 4 (by omega) (by omega) ?_
  simp only [cnt, pc_d 0 5 4 (by omega), pc_d 4 9 4 (by omega)]
  decide
theorem span_one {a b : Int} (h : 0 ≤ a ∧ a < b ∧ b ≤ 1099511627776) : SpanOK [⟨a, b⟩] := ⟨fun p hp => by rw [List.mem_singleton] at hp; subst hp; exact pv_iff.2 h, List.pairwise_singleton _ _⟩
theorem sc_one (a b t : Int) (h : 0 ≤ a ∧ a < b ∧ b ≤ 1099511627776) : sc [⟨a, b⟩] t = decide (a ≤ t ∧ t < b) := by rw [sc_cons, sc_nil, Bool.or_false, pc_d a b t h]
theorem aCrowd {cr : List S50} (h : CrowdOf (perS [0] aBad (encK aKey)) cr) : cr = [⟨4, 5⟩] := by
  refine span_unique h.1 (span_one (by omega)) (fun t => ?_)
  rw [h.2.1 t, sc_one 4 5 t (by omega), aperB, if_pos rfl, Bool.eq_iff_iff]
  simp only [cnt, pc_d 0 5 t (by omega), pc_d 4 9 t (by omega), Bool.and_eq_true, decide_eq_true_eq]
  by_cases h1 : 0 ≤ t ∧ t < 5 <;> by_cases h2 : 4 ≤ t ∧ t < 9 <;> simp [h1, h2] <;> omega
theorem aVSp {x : S58} {sp : List S50} {a b : Int} (hx : pick x.f0 [0] = aKey) (hp : x.f1 = ⟨a, b⟩) (h0 : 0 ≤ a ∧ a ≤ 4 ∧ 5 ≤ b ∧ b ≤ 1099511627776) (h : VSp [0] aBad x sp) : sp = [⟨4, 5⟩] := by
  obtain ⟨cr, h1, h2, h3⟩ := h
  rw [hx] at h1
  rw [aCrowd h1, hp] at h3
  refine span_unique h2 (span_one (by omega)) (fun t => ?_)
  rw [h3 t, sc_one a b t (by omega), sc_one 4 5 t (by omega), Bool.eq_iff_iff]
  simp only [Bool.and_eq_true, decide_eq_true_eq]
  omega
theorem aperR1 : perR aBad aR1 = [⟨0, 5⟩] := by
  unfold perR aBad
  simp [aq11, aq21, pv]
theorem aperR2 : perR aBad aR2 = [⟨4, 9⟩] := by
  unfold perR aBad
  simp [aq12, aq22, pv]
theorem aOf {a b : Int} {sp : List S50} (h0 : 0 ≤ a ∧ a < b ∧ b ≤ 1099511627776) (h : OfSp [⟨a, b⟩] sp) : sp = [⟨a, b⟩] := by
  refine span_unique h.1 (span_one h0) (fun t => ?_)
  rw [h.2 t, sc_one a b t h0, Bool.eq_iff_iff]
  simp only [Bool.and_eq_true, decide_eq_true_eq]
  omega
theorem aGok {gs : List S159} (h : GOK aBad gs) : gs = [⟨aR1, [⟨0, 5⟩]⟩, ⟨aR2, [⟨4, 9⟩]⟩] := by
  have hm : ∀ g ∈ gs, g = ⟨aR1, [⟨0, 5⟩]⟩ ∨ g = ⟨aR2, [⟨4, 9⟩]⟩ := by
    intro g hg
    obtain ⟨x, hx, he⟩ := gok_row h hg
    have h1 := (h.1.2.1 g hg).1
    obtain ⟨r, ps⟩ := g
    simp only at he h1
    have : x.f0 = aR1 ∨ x.f0 = aR2 := by
      unfold aBad at hx
      simp only [List.mem_cons, List.not_mem_nil, or_false] at hx
      rcases hx with rfl | rfl
      · exact .inl rfl
      · exact .inr rfl
    rcases this with h2 | h2
    · rw [h2] at he; subst he
      rw [aperR1] at h1
      exact .inl (by rw [h1])
    · rw [h2] at he; subst he
      rw [aperR2] at h1
      exact .inr (by rw [h1])
  obtain ⟨g1, hg1, he1⟩ := h.1.2.2 ⟨aR1, ⟨0, 5⟩⟩ (by simp [aBad]) (by simp [pv])
  obtain ⟨g2, hg2, he2⟩ := h.1.2.2 ⟨aR2, ⟨4, 9⟩⟩ (by simp [aBad]) (by simp [pv])
  have e1 : g1 = ⟨aR1, [⟨0, 5⟩]⟩ := (hm g1 hg1).resolve_right (fun e => ane (he1.symm.trans (congrArg S159.f0 e)))
  have e2 : g2 = ⟨aR2, [⟨4, 9⟩]⟩ := (hm g2 hg2).resolve_left (fun e => ane ((congrArg S159.f0 e).symm.trans he2))
  subst e1 e2
  have hs := h.2
  match gs, hm, hg1, hg2, hs with
  | [], _, hg1, _, _ => simp at hg1
  | [a], _, hg1, hg2, _ =>
    simp only [List.mem_singleton] at hg1 hg2
    rw [← hg1] at hg2
    exact absurd (congrArg S159.f0 hg2) (Ne.symm ane)
  | [a, b], hm, hg1, hg2, hs =>
    have hlt : rcmp a.f0 b.f0 < 0 := by simpa using hs
    rcases hm a (by simp) with ha | ha <;> rcases hm b (by simp) with hb | hb
    · rw [ha, hb, rcmp_ord.refl] at hlt; omega
    · rw [ha, hb]
    · rw [ha, hb] at hlt; simp only [a21] at hlt; omega
    · rw [ha, hb, rcmp_ord.refl] at hlt; omega
  | a :: b :: c :: r, hm, _, _, hs =>
    have h1 : rcmp a.f0 b.f0 < 0 := (List.pairwise_cons.1 hs).1 b (by simp)
    have h2 : rcmp b.f0 c.f0 < 0 := (List.pairwise_cons.1 (List.pairwise_cons.1 hs).2).1 c (by simp)
    have h3 : rcmp a.f0 c.f0 < 0 := (List.pairwise_cons.1 hs).1 c (by simp)
    rcases hm a (by simp) with ha | ha <;> rcases hm b (by simp) with hb | hb <;> rcases hm c (by simp) with hc | hc <;> rw [ha] at h1 h3 <;> rw [hb] at h1 h2 <;> rw [hc] at h2 h3 <;> simp only [a21, a12, rcmp_ord.refl] at h1 h2 h3 <;> omega
theorem aVio {nm : ByteArray} {gs : List S159} {facts : List S58} {out : List S52} (h1 : GOK aBad gs) (h2 : BuiltR OfSp gs facts) (h3 : ViolR nm (VSp [0] aBad) facts out) : out = [vio nm aR1 ⟨4, 5⟩, vio nm aR2 ⟨4, 5⟩] := by
  rw [aGok h1] at h2
  obtain ⟨sp1, r1, hs1, rfl, sp2, r2, hs2, rfl, hr2⟩ := h2
  have hr2 : r2 = [] := hr2
  subst hr2
  obtain rfl := aOf (by omega) hs1
  obtain rfl := aOf (by omega) hs2
  obtain ⟨q1, u1, hq1, rfl, q2, u2, hq2, rfl, hu2⟩ := h3
  have hu2 : u2 = [] := hu2
  subst hu2
  obtain rfl := aVSp (x := ⟨aR1, ⟨0, 5⟩⟩) apick1 rfl (by omega) hq1
  obtain rfl := aVSp (x := ⟨aR2, ⟨4, 9⟩⟩) apick2 rfl (by omega) hq2
  rfl
theorem aRows : rowsAt (withS [0] aBad aKey) 4 = [aR1, aR2] := by
  have h1 : withS [0] aBad aKey = aBad := by
    unfold withS aBad
    simp [apick1, apick2, req_iff.2 (rfl : aKey = aKey)]
  rw [h1]
  unfold rowsAt aBad
  simp [pc_d 0 5 4 (by omega), pc_d 4 9 4 (by omega)]
theorem aAt {ys : List (List S82)} (hp : ys.Perm (rowsAt (withS [0] aBad aKey) 4)) (hs : ys.Pairwise (fun a b => rcmp a b ≤ 0)) : ys = [aR1, aR2] := by
  rw [aRows] at hp
  refine rcmp_ord.sorted_unique hs ?_ hp
  simp [a12]
theorem aLife {r : List S50} (h1 : SpanOK r) (h2 : ∀ t, sc r t = (decide (0 ≤ t ∧ t < 1099511627776) && sc ((withS [0] aGood aKey).map S58.f1) t)) : r = [⟨0, 9⟩] := by
  have h3 : withS [0] aGood aKey = aGood := by
    unfold withS aGood
    simp [apick1, apick2, req_iff.2 (rfl : aKey = aKey)]
  rw [h3] at h2
  refine span_unique h1 (span_one (by omega)) (fun t => ?_)
  rw [h2 t, sc_one 0 9 t (by omega)]
  unfold aGood
  simp only [List.map_cons, List.map_nil, sc_cons, sc_nil, Bool.or_false, pc_d 0 5 t (by omega), pc_d 5 9 t (by omega)]
  rw [Bool.eq_iff_iff]
  simp only [Bool.and_eq_true, Bool.or_eq_true, decide_eq_true_eq]
  omega
theorem encV_len {v : S82} (h : InR v) (hs : v.f2.size ≤ 1000000000) : (encV v).length ≤ 66 + v.f2.size := by
  obtain ⟨h0, h1⟩ := h
  unfold InI at h0 h1
  have e := encV_eq v []
  rw [List.append_nil] at e
  rw [e]
  have l1 := Lib.itoa_length_le v.f0 h0.1 h0.2
  have l2 := Lib.itoa_length_le v.f1 h1.1 h1.2
  have l3 := Lib.itoa_length_le (v.f2.size : Int) (by omega) (by omega)
  have l4 : v.f2.data.toList.length = v.f2.size := by rw [Array.length_toList]; rfl
  simp only [List.length_append, List.length_cons, List.append_nil, l4]
  omega
theorem encK_len : ∀ {l : List S82}, (∀ v ∈ l, InR v ∧ v.f2.size ≤ 1000000000) → (encK l).length ≤ l.length * 1000000066
  | [], _ => by simp [encK]
  | v :: l, h => by
    have h1 := encV_len (h v List.mem_cons_self).1 (h v List.mem_cons_self).2
    have h2 := (h v List.mem_cons_self).2
    have h3 := encK_len (l := l) (fun u hu => h u (List.mem_cons_of_mem _ hu))
    have e : encK (v :: l) = encV v ++ encK l := by simp [encK]
    rw [e, List.length_append, List.length_cons]
    omega
/-- Rows of few, small values. -/
def RowOK (row : List S82) : Prop := row.length ≤ 1000 ∧ ∀ v ∈ row, InR v ∧ v.f2.size ≤ 1000000000
theorem atV_ok {row : List S82} (h : RowOK row) (i : Int) : InR (atV row i) ∧ (atV row i).f2.size ≤ 1000000000 := by
  unfold atV
  split
  · rename_i hi
    refine h.2 _ ?_
    unfold rd_T82
    rw [List.getD_eq_getElem?_getD, List.getElem?_eq_getElem (by omega)]
    exact List.getElem_mem _
  · refine ⟨?_, by decide⟩
    unfold InR InI z82
    simp only
    omega
theorem pick_ok {row : List S82} (h : RowOK row) {cols : List Int} (hc : cols.length ≤ 1000) : RowOK (pick row cols) := by
  refine ⟨by rw [pick_len]; exact hc, fun v hv => ?_⟩
  unfold pick at hv
  obtain ⟨i, _, rfl⟩ := List.mem_map.1 hv
  exact atV_ok h i
theorem rowOK_enc {row : List S82} (h : RowOK row) : (∀ v ∈ row, InR v) ∧ (encK row).length ≤ 70368744177664 := by
  refine ⟨fun v hv => (h.2 v hv).1, ?_⟩
  have h1 := encK_len h.2
  have h2 := h.1
  omega
def RowsOK (l : List S58) : Prop := ∀ x ∈ l, RowOK x.f0
theorem RowsOK.all {l : List S58} (h : RowsOK l) : KeysAll l := fun x hx => rowOK_enc (h x hx)
theorem RowsOK.keys {l : List S58} (h : RowsOK l) {cols : List Int} (hc : cols.length ≤ 1000) : KeysIn cols l := fun x hx => rowOK_enc (pick_ok (h x hx) hc)
theorem RowsOK.len {l : List S58} (h : RowsOK l) : ∀ x ∈ l, x.f0.length ≤ 1000000 := fun x hx => by have := (h x hx).1; omega
theorem aRow1 : RowOK aR1 := by
  refine ⟨by decide, fun v hv => ?_⟩
  unfold aR1 at hv
  simp only [List.mem_cons, List.not_mem_nil, or_false] at hv
  rcases hv with rfl | rfl
  · exact ⟨by unfold InR InI aV; simp only; omega, by decide⟩
  · exact ⟨by unfold InR InI aX; simp only; omega, by decide⟩
theorem aRow2 : RowOK aR2 := by
  refine ⟨by decide, fun v hv => ?_⟩
  unfold aR2 at hv
  simp only [List.mem_cons, List.not_mem_nil, or_false] at hv
  rcases hv with rfl | rfl
  · exact ⟨by unfold InR InI aV; simp only; omega, by decide⟩
  · exact ⟨by unfold InR InI aY; simp only; omega, by decide⟩
theorem aOKG : RowsOK aGood := by
  intro x hx
  unfold aGood at hx
  simp only [List.mem_cons, List.not_mem_nil, or_false] at hx
  rcases hx with rfl | rfl
  · exact aRow1
  · exact aRow2
theorem aOKB : RowsOK aBad := by
  intro x hx
  unfold aBad at hx
  simp only [List.mem_cons, List.not_mem_nil, or_false] at hx
  rcases hx with rfl | rfl
  · exact aRow1
  · exact aRow2
end Go.Proofs.YtiamihkfphmohaaGreatDoor.PA

namespace Go.Proofs.YtiamihkfphmohaaGreatDoor.PA
open Go.RowKit Go.Proofs.YtiamihkfphmohaaGreatDoorW.PrintWords Go.Proofs.YtiamihkfphmohaaGreatDoorW.PrintLast Go.Proofs.YtiamihkfphmohaaGreatDoorW.PrintMore

open Go.Sort
attribute [local irreducible] Go.wpQuiet
theorem ent66 : ∀ args w, (callFunc 66 args).run Tryz.prog w = .ok (.enter 66 args) w := enters_of Tryz.func66 (by kernel_rfl) rfl
theorem ent124 : ∀ args w, (callFunc 124 args).run Tryz.prog w = .ok (.enter 124 args) w := enters_of Tryz.func124 (by kernel_rfl) rfl
set_option maxHeartbeats 400000 in
theorem q66x (a b : Int) (r : Bool) (hr : pv ⟨a, b⟩ = r) (w : World) :
    Calls Tryz.prog 66 #[.agg #[.int .i64 a, .int .i64 b]] w fun e w' => e = .returned (.bool r) ∧ ∃ q os', w' = grow (w.drewN q) os' := by
  subst hr
  go_enter Tryz.func66, Tryz.ntmps66
  go_wp2
  all_goals
    go_ret
    exact ⟨rb (by rw [Bool.eq_iff_iff, pv_iff]; simp; omega), 0, _, by rw [alloc_eq_grow]; rfl⟩
def soundP (ks : List Int) (l : List S58) : Prop := ∀ x ∈ l, pv x.f1 = true ∧ fitP x.f0 ks
theorem soundP_step {ks : List Int} {l : List S58} {k : Nat} (h : soundP ks (l.take k)) (hk : k < l.length) (h1 : pv (rd_T58 l k).f1 = true) (h2 : fitP (rd_T58 l k).f0 ks) : soundP ks (l.take (k + 1)) := by
  intro x hx
  rw [take_step hk, List.mem_append, List.mem_singleton] at hx
  rcases hx with hx | hx
  · exact h x hx
  · subst hx
    have e : l[k] = rd_T58 l k := by simp [rd_T58, hk]
    rw [e]
    exact ⟨h1, h2⟩
def SndRes (ks : List Int) (l : List S58) (w : World) (e : Ending) (w' : World) : Prop := ∃ r : Bool, e = .returned (.bool r) ∧ (r = true → soundP ks l) ∧ Below w.heap.size w w'
theorem snd_no {ks : List Int} {l : List S58} {w w' : World} {e : Ending} (he : e = .returned (.bool false)) (hb : Below w.heap.size w w') : SndRes ks l w e w' := ⟨false, he, (fun h => by cases h), hb⟩
theorem snd_yes {ks : List Int} {l : List S58} {w w' : World} {e : Ending} {r : Bool} (he : e = .returned (.bool r)) (h : soundP ks l) (hb : Below w.heap.size w w') : SndRes ks l w e w' := ⟨r, he, (fun _ => h), hb⟩
open Classical in
set_option maxHeartbeats 2000000 in
set_option maxRecDepth 100000 in
theorem q83 (ks : List Int) (l : List S58) (A2 A : Option Addr) (c2 c : Nat) (w : World) (hK : (Kd.int .i64).C w A2 ks.length ks) (hL : k58.C w A l.length l) (hF : ∀ x ∈ l, FIn x) (hkl : ks.length ≤ 1000) (hll : l.length ≤ 1000000) : Calls Tryz.prog 83 #[.agg #[.slice A2 ks.length c2, .slice A l.length c]] w (SndRes ks l w) := by
  have HK := Aside0.mk hK
  have HL := Aside0.mk hL
  have HF := Lib.hid hF
  have mixed := mixedT
  have e66 := ent66
  have e124 := ent124
  have hkl2 : ks.length ≤ 9223372036854775807 := by omega
  have hpt := blk_new w (.cells #[.slice A2 ks.length c2, .slice A l.length c] 111)
  have hbt : Below w.heap.size w (w.alloc (.cells #[.slice A2 ks.length c2, .slice A l.length c] 111)) := below_alloc (Below.refl w.heap.size w) _
  have HB := Aside0.mk hbt
  have HX := Aside0.mk hpt
  clear hK hL hF hpt hbt
  go_enter Tryz.func83, Tryz.ntmps83
  go_wp2
  generalize w.alloc (.cells #[.slice A2 ks.length c2, .slice A l.length c] 111) = W0 at *
  go_loopw [3] (fun i wr => ∃ k : Nat, i = .int .i64 k ∧ k ≤ l.length ∧ Aside0 (Below w.heap.size w wr) ∧ Aside0 (wr.heap[w.heap.size]? = some (.cells #[.slice A2 ks.length c2, .slice A l.length c] 111 (0, 0))) ∧ Aside0 (soundP ks (l.take k))) (fun i _ => l.length - (intOf i).toNat)
  case atStart => exact ⟨0, rfl, Nat.zero_le _, HB, HX, ⟨fun x h => by simp at h⟩⟩
  case round =>
    clear HB HX
    obtain ⟨k, rfl, hk', HB, HX, HP⟩ := hrel
    have t0 : wr.cell? ⟨w.heap.size, 0, none⟩ = some (.slice A2 ks.length c2) := by rw [blk_cell HX.out]; rfl
    have t1 : wr.cell? ⟨w.heap.size, 1, none⟩ = some (.slice A l.length c) := by rw [blk_cell HX.out]; rfl
    have tl := World.block_lt_of_cell? _ _ t1
    by_cases h1 : k < l.length
    · have hk1 : (0 : Int) ≤ k := by omega
      have hk2 : (k : Int) < l.length := by omega
      have hmem : rd_T58 l k ∈ l := by simp [rd_T58, h1]
      have HFX := Lib.hid (HF.out _ hmem)
      obtain ⟨xa, A3, c3, rfl, x0, x1, x2, hle, hrow⟩ := at_T58 HL.out k (by omega) (by omega)
      rw [Int.toNat_natCast] at x0 x1 x2
      replace x0 := pw_cell_below HB.out x0
      replace x1 := pw_cell_below HB.out x1
      replace x2 := pw_cell_below HB.out x2
      have xbl := World.block_lt_of_cell? _ _ x0
      have HW := Aside0.mk hrow
      clear hrow hmem
      have hrl : (rd_T58 l k).f0.length ≤ 9223372036854775807 := by have := HFX.out.1; rw [maxl] at this; exact this
      by_cases hv : pv ⟨(rd_T58 l k).f1.f0, (rd_T58 l k).f1.f1⟩ = true
      · have HV := Lib.hid hv
        clear hv
        by_cases hf : fitP (rd_T58 l k).f0 ks
        · have HS := Lib.hid hf
          have HD := Lib.hid (decide_eq_true hf)
          clear hf
          go_wp2_with fail
          have gt0 := cell_grown tl t0
          have gt1 := cell_grown tl t1
          have g0 := cell_grown xbl x0
          have g1 := cell_grown (a := ⟨(xa.add (k * 3)).block, (xa.add (k * 3)).off + 1, none⟩) xbl x1
          have g2 := cell_grown (a := ⟨(xa.add (k * 3)).block, (xa.add (k * 3)).off + 2, none⟩) xbl x2
          clear t0 t1 x0 x1 x2
          go_quiet_grown ((first | (go_at_fn 66; refine Calls.grown_of (q66x _ _ true HV.out _)) | (go_at_fn 124; refine Calls.grown_of (q124x (rd_T58 l k).f0 ks A3 A2 c3 c2 _ (Kd.C_below (Kd.C_below HW.out HB.out) (below_gr _ _ _)) (Kd.C_below (Kd.C_below HK.out HB.out) (below_gr _ _ _)) HFX.out.2.1 hrl hkl2 true HD.out))))
          have hbg := below_gr wr nq osq
          have HB2 := Aside0.mk (bthen HB.out hbg)
          have HX2 := Aside0.mk (blk_below HX.out hbg)
          clear gt0 gt1 g0 g1 g2 hbg
          generalize grow (wr.drewN nq) osq = w2 at *
          go_wp2
          exact ⟨⟨k + 1, by go_num, h1, HB2, HX2, ⟨soundP_step HP.out h1 HV.out HS.out⟩⟩, by simp [intOf]; omega⟩
        · have HD := Lib.hid (decide_eq_false hf)
          clear hf
          go_wp2_with fail
          have gt0 := cell_grown tl t0
          have gt1 := cell_grown tl t1
          have g0 := cell_grown xbl x0
          have g1 := cell_grown (a := ⟨(xa.add (k * 3)).block, (xa.add (k * 3)).off + 1, none⟩) xbl x1
          have g2 := cell_grown (a := ⟨(xa.add (k * 3)).block, (xa.add (k * 3)).off + 2, none⟩) xbl x2
          clear t0 t1 x0 x1 x2
          go_quiet_grown ((first | (go_at_fn 66; refine Calls.grown_of (q66x _ _ true HV.out _)) | (go_at_fn 124; refine Calls.grown_of (q124x (rd_T58 l k).f0 ks A3 A2 c3 c2 _ (Kd.C_below (Kd.C_below HW.out HB.out) (below_gr _ _ _)) (Kd.C_below (Kd.C_below HK.out HB.out) (below_gr _ _ _)) HFX.out.2.1 hrl hkl2 false HD.out))))
          have hbg := below_gr wr nq osq
          have HB2 := Aside0.mk (bthen HB.out hbg)
          have HX2 := Aside0.mk (blk_below HX.out hbg)
          clear gt0 gt1 g0 g1 g2 hbg
          generalize grow (wr.drewN nq) osq = w2 at *
          go_wp2
          go_ret
          exact snd_no rfl HB2.out
      · have HV := Lib.hid (Bool.not_eq_true _ ▸ hv : pv ⟨(rd_T58 l k).f1.f0, (rd_T58 l k).f1.f1⟩ = false)
        clear hv
        go_wp2_with fail
        have gt0 := cell_grown tl t0
        have gt1 := cell_grown tl t1
        have g0 := cell_grown xbl x0
        have g1 := cell_grown (a := ⟨(xa.add (k * 3)).block, (xa.add (k * 3)).off + 1, none⟩) xbl x1
        have g2 := cell_grown (a := ⟨(xa.add (k * 3)).block, (xa.add (k * 3)).off + 2, none⟩) xbl x2
        clear t0 t1 x0 x1 x2
        go_quiet_grown ((go_at_fn 66; refine Calls.grown_of (q66x _ _ false HV.out _)))
        have hbg := below_gr wr nq osq
        have HB2 := Aside0.mk (bthen HB.out hbg)
        have HX2 := Aside0.mk (blk_below HX.out hbg)
        clear gt0 gt1 g0 g1 g2 hbg
        generalize grow (wr.drewN nq) osq = w2 at *
        go_wp2
        go_ret
        exact snd_no rfl HB2.out
    · have HQ := Lib.hid (show soundP ks l from by have := HP.out; rw [List.take_of_length_le (by omega)] at this; exact this)
      clear HP
      by_cases z0 : 0 < ks.length
      · have z1 : (0 : Int) < ks.length := by omega
        by_cases z2 : ks.length ≤ 48
        · have z3 : (ks.length : Int) ≤ 48 := by omega
          go_wp2_with fail
          refine (q125 A2 _ c2 ks _ (Kd.C_below HK.out HB.out)).mono ?_
          rintro e w2 ⟨b2, rfl, hb2⟩
          have HB2 := Aside0.mk (bthen HB.out hb2)
          go_wp2
          go_ret
          exact snd_yes rfl HQ.out HB2.out
        · have z3 : ¬ (ks.length : Int) ≤ 48 := by omega
          go_wp2
          go_ret
          exact snd_no rfl HB.out
      · have z1 : ¬ (0 : Int) < ks.length := by omega
        go_wp2
        go_ret
        exact snd_no rfl HB.out
/-- What the guard of the laws over a table says of its facts. -/
structure BelP (t : Tbl) (l : List S58) : Prop where
  key : t.key.length ≤ t.cols.length
  sound : soundP (kindsT t) l
def BlgRes (t : Tbl) (l : List S58) (w : World) (e : Ending) (w' : World) : Prop := ∃ r : Bool, e = .returned (.bool r) ∧ (r = true → BelP t l) ∧ Below w.heap.size w w'
theorem kindsT_len (t : Tbl) : (kindsT t).length = t.cols.length := by simp [kindsT]
set_option maxHeartbeats 2000000 in
set_option maxRecDepth 100000 in
theorem q48 (t : Tbl) (A1 A2 A3 A4 : Option Addr) (c1 c2 c3 c4 : Nat) (l : List S58) (A : Option Addr) (c : Nat) (w : World) (hT : TK w t A1 A2 A3 A4 c1 c2 c3 c4) (hI : TIn t) (hc : t.cols.length ≤ 1000) (hL : k58.C w A l.length l) (hF : ∀ x ∈ l, FIn x) (hll : l.length ≤ 1000000) : Calls Tryz.prog 48 #[.agg #[.string t.nm, .slice A1 t.cols.length c1, .slice A2 t.key.length c2, .slice A3 t.fors.length c3, .slice A4 t.chks.length c4], .slice A l.length c] w (BlgRes t l w) := by
  have HT := Aside0.mk hT
  have HI := Lib.hid hI
  have HC := Lib.hid hc
  have HL := Aside0.mk hL
  have HF := Lib.hid hF
  have hpt := blk_new w (.cells #[.string t.nm, .slice A1 t.cols.length c1, .slice A2 t.key.length c2, .slice A3 t.fors.length c3, .slice A4 t.chks.length c4] 27)
  clear hT hI hc hL hF
  go_enter Tryz.func48, Tryz.ntmps48
  go_wp2_with fail
  refine (q82 t A1 A2 A3 A4 c1 c2 c3 c4 _ (HT.out.below (below_alloc (Below.refl _ _) _)) HI.out HC.out).mono ?_
  rintro e w1 ⟨n1, rfl, hk1, hb1⟩
  have HB1 := Aside0.mk (bel1 hb1)
  have HX1 := Aside0.mk (blk_below hpt hb1)
  have HK1 := Lib.hid hk1
  clear hpt hb1 hk1
  by_cases hz : n1 = 0
  · subst hz
    have t0 : (w1).cell? ⟨w.heap.size, 0, none⟩ = some (.string t.nm) := by rw [blk_cell HX1.out]; rfl
    have t1 : (w1).cell? ⟨w.heap.size, 1, none⟩ = some (.slice A1 t.cols.length c1) := by rw [blk_cell HX1.out]; rfl
    have t2 : (w1).cell? ⟨w.heap.size, 2, none⟩ = some (.slice A2 t.key.length c2) := by rw [blk_cell HX1.out]; rfl
    have t3 : (w1).cell? ⟨w.heap.size, 3, none⟩ = some (.slice A3 t.fors.length c3) := by rw [blk_cell HX1.out]; rfl
    have t4 : (w1).cell? ⟨w.heap.size, 4, none⟩ = some (.slice A4 t.chks.length c4) := by rw [blk_cell HX1.out]; rfl
    have tl := World.block_lt_of_cell? _ _ t1
    go_wp2_with fail
    refine (q84 t A1 A2 A3 A4 c1 c2 c3 c4 _ (HT.out.below HB1.out) HI.out HC.out).mono ?_
    rintro e w2 ⟨v2, rfl, hR2, hb2⟩
    have HB2 := Aside0.mk (bthen HB1.out hb2)
    obtain ⟨A8, c8, rfl⟩ := Kd.R_slice hR2
    have hk2 := (Kd.R_reads' hR2).2.2
    have HK2 := Aside0.mk hk2
    clear hR2 hk2 hb2 t0 t1 t2 t3 t4 tl HX1
    go_wp2_with fail
    refine (q83 (kindsT t) l A8 A c8 c _ HK2.out (Kd.C_below HL.out HB2.out) HF.out (by rw [kindsT_len]; exact HC.out) hll).mono ?_
    rintro e w3 ⟨b3, rfl, h3, hb3⟩
    have HB3 := Aside0.mk (bthen HB2.out hb3)
    have H3 := Lib.hid h3
    clear h3 hb3
    go_wp2
    go_ret
    exact ⟨b3, rfl, (fun h => ⟨by have := HK1.out; simpa using this, H3.out h⟩), HB3.out⟩
  · have hz1 : (n1 == 0) = false := by simp [hz]
    go_wp2
    go_ret
    exact ⟨false, rfl, (fun h => by cases h), HB1.out⟩
/-- .. and of their number. -/
structure FitsP (m : Int) (t : Tbl) (l : List S58) : Prop where
  cols : t.cols.length ≤ 12
  few : fewP l m
  bel : BelP t l
theorem FitsP.rows {m : Int} {t : Tbl} {l : List S58} (h : FitsP m t l) : RowsOK l := by
  intro x hx
  refine ⟨by have := h.few.2 x hx; omega, fun v hv => ?_⟩
  obtain ⟨j, hj, rfl⟩ := List.getElem_of_mem hv
  have h1 := ((h.bel.sound x hx).2.2 j hj).1
  have e : x.f0[j] = rd_T82 x.f0 j := by simp [rd_T82, hj]
  rw [e]
  exact vok_valP h1
def BgsRes (m : Int) (t : Tbl) (l : List S58) (w : World) (e : Ending) (w' : World) : Prop := ∃ r : Bool, e = .returned (.bool r) ∧ (r = true → FitsP m t l) ∧ Below w.heap.size w w'
set_option maxHeartbeats 2000000 in
set_option maxRecDepth 100000 in
theorem q13 (t : Tbl) (A1 A2 A3 A4 : Option Addr) (c1 c2 c3 c4 : Nat) (l : List S58) (A : Option Addr) (c : Nat) (w : World) (hT : TK w t A1 A2 A3 A4 c1 c2 c3 c4) (hI : TIn t) (hL : k58.C w A l.length l) (hF : ∀ x ∈ l, FIn x) : Calls Tryz.prog 13 #[.agg #[.string t.nm, .slice A1 t.cols.length c1, .slice A2 t.key.length c2, .slice A3 t.fors.length c3, .slice A4 t.chks.length c4], .slice A l.length c] w (BgsRes 16 t l w) := by
  have HT := Aside0.mk hT
  have HI := Lib.hid hI
  have HL := Aside0.mk hL
  have HF := Lib.hid hF
  have hml : t.cols.length ≤ 9223372036854775807 := by have := hI.colsl; rw [maxl] at this; exact this
  have hpt := blk_new w (.cells #[.string t.nm, .slice A1 t.cols.length c1, .slice A2 t.key.length c2, .slice A3 t.fors.length c3, .slice A4 t.chks.length c4] 27)
  have hbt : Below w.heap.size w (w.alloc (.cells #[.string t.nm, .slice A1 t.cols.length c1, .slice A2 t.key.length c2, .slice A3 t.fors.length c3, .slice A4 t.chks.length c4] 27)) := below_alloc (Below.refl w.heap.size w) _
  clear hT hI hL hF
  go_enter Tryz.func13, Tryz.ntmps13
  by_cases hz : t.cols.length ≤ 12
  · have hz1 : (t.cols.length : Int) ≤ 12 := by omega
    go_wp2_with fail
    refine (q47 A _ c l 16 _ (Kd.C_below HL.out hbt)).mono ?_
    rintro e w1 ⟨b1, rfl, h1, hb1⟩
    have HB1 := Aside0.mk (bel1 hb1)
    have HX1 := Aside0.mk (blk_below hpt hb1)
    have HK1 := Lib.hid h1
    have HZ := Lib.hid hz
    clear hpt hb1 h1 hz hz1 hbt
    cases b1 with
    | false =>
      go_wp2
      go_ret
      exact ⟨false, rfl, (fun h => by cases h), HB1.out⟩
    | true =>
      replace HK1 := Lib.hid (HK1.out rfl)
      have t0 : (w1).cell? ⟨w.heap.size, 0, none⟩ = some (.string t.nm) := by rw [blk_cell HX1.out]; rfl
      have t1 : (w1).cell? ⟨w.heap.size, 1, none⟩ = some (.slice A1 t.cols.length c1) := by rw [blk_cell HX1.out]; rfl
      have t2 : (w1).cell? ⟨w.heap.size, 2, none⟩ = some (.slice A2 t.key.length c2) := by rw [blk_cell HX1.out]; rfl
      have t3 : (w1).cell? ⟨w.heap.size, 3, none⟩ = some (.slice A3 t.fors.length c3) := by rw [blk_cell HX1.out]; rfl
      have t4 : (w1).cell? ⟨w.heap.size, 4, none⟩ = some (.slice A4 t.chks.length c4) := by rw [blk_cell HX1.out]; rfl
      have tl := World.block_lt_of_cell? _ _ t1
      go_wp2_with fail
      refine (q48 t A1 A2 A3 A4 c1 c2 c3 c4 l A c _ (HT.out.below HB1.out) HI.out (by have := HZ.out; omega) (Kd.C_below HL.out HB1.out) HF.out (by have := HK1.out.1; omega)).mono ?_
      rintro e w2 ⟨b2, rfl, h2, hb2⟩
      have HB2 := Aside0.mk (bthen HB1.out hb2)
      have H2 := Lib.hid h2
      clear h2 hb2 t0 t1 t2 t3 t4 tl HX1
      go_wp2
      go_ret
      exact ⟨b2, rfl, (fun h => ⟨HZ.out, HK1.out, H2.out h⟩), HB2.out⟩
  · have hz1 : ¬ (t.cols.length : Int) ≤ 12 := by omega
    go_wp2
    go_ret
    exact ⟨false, rfl, (fun h => by cases h), hbt⟩
end Go.Proofs.YtiamihkfphmohaaGreatDoor.PA

namespace Go.Proofs.YtiamihkfphmohaaGreatDoor.PA
open Go.RowKit Go.Proofs.YtiamihkfphmohaaGreatDoorW.PrintWords Go.Proofs.YtiamihkfphmohaaGreatDoorW.PrintLast Go.Proofs.YtiamihkfphmohaaGreatDoorW.PrintMore

/-! ### A part of the facts -/
theorem cnt_sub {a b : List S50} (h : a.Sublist b) (t : Int) : cnt a t ≤ cnt b t := by
  induction h with
  | slnil => exact Int.le_refl _
  | cons p _ ih => simp only [cnt]; split <;> omega
  | cons_cons p _ ih => simp only [cnt]; omega
theorem perS_sub {cols : List Int} {a b : List S58} (h : a.Sublist b) (s : List UInt8) : (perS cols a s).Sublist (perS cols b s) := (h.filter _).map _
theorem holds_sub {cols : List Int} {a b : List S58} (h : a.Sublist b) (hb : HoldsP cols b) : HoldsP cols a := fun s t h1 h2 h3 => hb s t h1 h2 (Int.le_trans h3 (cnt_sub (perS_sub h s) t))
theorem holds_nil (cols : List Int) : HoldsP cols [] := fun s => by
  have : perS cols [] s = [] := rfl
  rw [this]
  exact nocrowd_nil
theorem sub_push {l pl : List S58} {k : Nat} (h : pl.Sublist (l.take k)) (hk : k < l.length) : (pl ++ [rd_T58 l k]).Sublist (l.take (k + 1)) := by
  have e : l[k] = rd_T58 l k := by simp [rd_T58, hk]
  rw [take_step hk, e]
  exact h.append (List.Sublist.refl _)
theorem sub_keep {l pl : List S58} {k : Nat} (h : pl.Sublist (l.take k)) (hk : k < l.length) : pl.Sublist (l.take (k + 1)) := by
  rw [take_step hk]
  exact h.trans (List.sublist_append_left _ _)
theorem RowsOK.sub {a b : List S58} (h : a.Sublist b) (hb : RowsOK b) : RowsOK a := fun x hx => hb x (h.subset hx)
end Go.Proofs.YtiamihkfphmohaaGreatDoor.PA

namespace Go.Proofs.YtiamihkfphmohaaGreatDoor.PA
open Go.RowKit Go.Proofs.YtiamihkfphmohaaGreatDoorW.PrintWords Go.Proofs.YtiamihkfphmohaaGreatDoorW.PrintLast Go.Proofs.YtiamihkfphmohaaGreatDoorW.PrintMore

def eqP (p q : S50) : Bool := decide (p.f0 = q.f0 ∧ p.f1 = q.f1)
theorem eqP_iff {p q : S50} : eqP p q = true ↔ p = q := by
  obtain ⟨a, b⟩ := p
  obtain ⟨c, d⟩ := q
  simp [eqP]
/-- Two lists of periods are one. -/
def sameP : List S50 → List S50 → Bool
  | [], [] => true
  | x :: l, y :: m => eqP x y && sameP l m
  | _, _ => false
theorem sameP_iff : ∀ {a b : List S50}, sameP a b = true ↔ a = b
  | [], [] => by simp [sameP]
  | [], _ :: _ => by simp [sameP]
  | _ :: _, [] => by simp [sameP]
  | x :: l, y :: m => by
    rw [sameP, Bool.and_eq_true, eqP_iff, sameP_iff, List.cons.injEq]
theorem sameP_len {a b : List S50} (h : a.length ≠ b.length) : sameP a b = false := by
  rw [Bool.eq_false_iff]
  intro h2
  exact h (by rw [sameP_iff.1 h2])
theorem sameP_step {a b : List S50} {k : Nat} (h1 : k < a.length) (h2 : k < b.length) : sameP (a.drop k) (b.drop k) = (eqP (rd_T50 a k) (rd_T50 b k) && sameP (a.drop (k + 1)) (b.drop (k + 1))) := by
  rw [List.drop_eq_getElem_cons h1, List.drop_eq_getElem_cons h2, sameP]
  simp [rd_T50, h1, h2]
theorem sameP_end {a b : List S50} {k : Nat} (h1 : a.length ≤ k) (h2 : b.length ≤ k) : sameP (a.drop k) (b.drop k) = true := by
  rw [List.drop_eq_nil_of_le h1, List.drop_eq_nil_of_le h2]
  rfl
set_option maxHeartbeats 600000 in
theorem c28s (A1 : Option Addr) (n1 c1 : Nat) (a : List S50) (A2 : Option Addr) (n2 c2 : Nat) (b : List S50) (w : World) (hr1 : k50.C w A1 n1 a) (hr2 : k50.C w A2 n2 b) :
    Calls Tryz.prog 23 #[.slice A1 n1 c1, .slice A2 n2 c2] w fun e w' => e = .returned (.bool (sameP a b)) ∧ Below w.heap.size w w' := by
  obtain rfl := hr1.1
  obtain rfl := hr2.1
  have hm1 := hr1.2.1
  have hm2 := hr2.2.1
  have HR1 := Aside0.mk hr1
  have HR2 := Aside0.mk hr2
  clear hr1 hr2
  go_enter Tryz.func23, Tryz.ntmps23
  by_cases hlen : a.length = b.length
  · have hn : ((a.length : Int) != (b.length : Int)) = false := by simp [hlen]
    have HLEN := Lib.hid hlen
    clear hlen
    go_wp2
    go_loopw [5] (fun i wr => ∃ k : Nat, i = .int .i64 k ∧ k ≤ a.length ∧ Aside0 (sameP (a.drop k) (b.drop k) = sameP a b) ∧ Aside0 (Below w.heap.size w wr)) (fun i _ => a.length - (intOf i).toNat)
    case atStart => exact ⟨0, rfl, Nat.zero_le _, ⟨rfl⟩, ⟨Below.refl _ _⟩⟩
    case round =>
      obtain ⟨k, rfl, hk1', HC, HB⟩ := hrel
      by_cases h1 : k < a.length
      · have h1b : k < b.length := by have := HLEN.out; omega
        obtain ⟨xa, rfl, x0, x1⟩ := at_T50 HR1.out k (by omega) (by omega)
        obtain ⟨ya, rfl, y0, y1⟩ := at_T50 HR2.out k (by omega) (by omega)
        rw [Int.toNat_natCast] at x0 x1 y0 y1
        replace x0 := pw_cell_below HB.out x0
        replace x1 := pw_cell_below HB.out x1
        replace y0 := pw_cell_below HB.out y0
        replace y1 := pw_cell_below HB.out y1
        have xb := World.block_lt_of_cell? _ _ x0
        have yb := World.block_lt_of_cell? _ _ y0
        have hk1 : (0 : Int) ≤ k := by omega
        have hk2 : (k : Int) < a.length := by omega
        have hk3 : (k : Int) < b.length := by omega
        have hs := Lib.hid (sameP_step h1 h1b)
        clear h1b
        by_cases e1 : (rd_T50 a k).f0 = (rd_T50 b k).f0
        · by_cases e2 : (rd_T50 a k).f1 = (rd_T50 b k).f1
          · have HE := Lib.hid (show eqP (rd_T50 a k) (rd_T50 b k) = true from decide_eq_true ⟨e1, e2⟩)
            go_wp2_with fail
            go_region_held3 (fun W => W.cell? (xa.add (k * 2)) = some (.int .i64 (rd_T50 a k).f0) ∧ W.cell? ⟨(xa.add (k * 2)).block, (xa.add (k * 2)).off + 1, none⟩ = some (.int .i64 (rd_T50 a k).f1) ∧ W.cell? (ya.add (k * 2)) = some (.int .i64 (rd_T50 b k).f0) ∧ W.cell? ⟨(ya.add (k * 2)).block, (ya.add (k * 2)).off + 1, none⟩ = some (.int .i64 (rd_T50 b k).f1)) (go_keep) (fail)
            all_goals
              go_wp2
              exact ⟨⟨k + 1, by go_num, h1, ⟨by rw [← HC.out, hs.out, HE.out, Bool.true_and]⟩, ⟨(by repeat (first | (with_reducible first | exact HB.out | apply below_alloc | apply below_drew | apply pw_below_drewN | apply below_drew1) | exact HB.out))⟩⟩, by simp [intOf]; omega⟩
          · skip
            have HE := Lib.hid (show eqP (rd_T50 a k) (rd_T50 b k) = false from decide_eq_false (fun h => e2 h.2))
            go_wp2_with fail
            go_region_held3 (fun W => W.cell? (xa.add (k * 2)) = some (.int .i64 (rd_T50 a k).f0) ∧ W.cell? ⟨(xa.add (k * 2)).block, (xa.add (k * 2)).off + 1, none⟩ = some (.int .i64 (rd_T50 a k).f1) ∧ W.cell? (ya.add (k * 2)) = some (.int .i64 (rd_T50 b k).f0) ∧ W.cell? ⟨(ya.add (k * 2)).block, (ya.add (k * 2)).off + 1, none⟩ = some (.int .i64 (rd_T50 b k).f1)) (go_keep) (fail)
            all_goals
              go_wp2
              go_ret
              exact ⟨rb (by rw [← HC.out, hs.out, HE.out, Bool.false_and]), (by repeat (first | (with_reducible first | exact HB.out | apply below_alloc | apply below_drew | apply pw_below_drewN | apply below_drew1) | exact HB.out))⟩
        · skip
          have HE := Lib.hid (show eqP (rd_T50 a k) (rd_T50 b k) = false from decide_eq_false (fun h => e1 h.1))
          go_wp2_with fail
          go_region_held3 (fun W => W.cell? (xa.add (k * 2)) = some (.int .i64 (rd_T50 a k).f0) ∧ W.cell? ⟨(xa.add (k * 2)).block, (xa.add (k * 2)).off + 1, none⟩ = some (.int .i64 (rd_T50 a k).f1) ∧ W.cell? (ya.add (k * 2)) = some (.int .i64 (rd_T50 b k).f0) ∧ W.cell? ⟨(ya.add (k * 2)).block, (ya.add (k * 2)).off + 1, none⟩ = some (.int .i64 (rd_T50 b k).f1)) (go_keep) (fail)
          all_goals
            go_wp2
            go_ret
            exact ⟨rb (by rw [← HC.out, hs.out, HE.out, Bool.false_and]), (by repeat (first | (with_reducible first | exact HB.out | apply below_alloc | apply below_drew | apply pw_below_drewN | apply below_drew1) | exact HB.out))⟩
      · go_wp2
        go_ret
        exact ⟨rb (by rw [← HC.out, sameP_end (by omega) (by have := HLEN.out; omega)]), HB.out⟩
  · have hn : ((a.length : Int) != (b.length : Int)) = true := by simp; omega
    have HS := Lib.hid (sameP_len hlen)
    go_wp2
    go_ret
    exact ⟨rb HS.out.symm, Below.refl _ _⟩
end Go.Proofs.YtiamihkfphmohaaGreatDoor.PA

namespace Go.Proofs.YtiamihkfphmohaaGreatDoor.PA
open Go.RowKit Go.Proofs.YtiamihkfphmohaaGreatDoorW.PrintWords Go.Proofs.YtiamihkfphmohaaGreatDoorW.PrintLast Go.Proofs.YtiamihkfphmohaaGreatDoorW.PrintMore

/-- A block of cells, read as a row. -/
theorem C_of_blk {α : Type} {d : Kd α} {W : World} {g : Nat} {t : TypeId} {cs : Array Value} {xs : List α} (hb : W.heap[g]? = some (.cells cs t (0, 0))) (enc : List (List Value)) (hl : enc.length = xs.length) (hn : xs.length ≤ 9223372036854775807)
    (hK : ∀ (j : Nat) (x : α) (c : List Value), xs[j]? = some x → enc[j]? = some c → d.K W x c) (hc : ∀ (j : Nat) (c : List Value), enc[j]? = some c → ∀ (i : Nat) (u : Value), c[i]? = some u → cs[j * d.sz + i]? = some u) : d.C W (some ⟨g, 0, none⟩) xs.length xs := by
  refine ⟨rfl, hn, fun _ => ⟨_, rfl, fun j x hj => ?_⟩⟩
  obtain ⟨hjl, hjx⟩ := List.getElem?_eq_some_iff.1 hj
  have he := List.getElem?_eq_getElem (show j < enc.length by omega)
  have hk := hK j x _ hj he
  refine ⟨_, d.K_len hk, hk, fun i u hu => ?_⟩
  rw [add_plain, blk_cell hb]
  exact hc j _ he i u hu
theorem C_two82 {W : World} {g : Nat} {x y : S82} (hb : W.heap[g]? = some (.cells #[.int .i64 x.f0, .int .i64 x.f1, .string x.f2, .int .i64 y.f0, .int .i64 y.f1, .string y.f2] 82 (0, 0))) : k82.C W (some ⟨g, 0, none⟩) 2 [x, y] := by
  refine C_of_blk (xs := [x, y]) hb [en82 x, en82 y] rfl (by simp) (fun j z c h1 h2 => ?_) (fun j c h2 i u hu => ?_)
  · rcases j with _ | _ | j
    · obtain rfl := Option.some.inj h1; obtain rfl := Option.some.inj h2; exact k82_mk _ _
    · obtain rfl := Option.some.inj h1; obtain rfl := Option.some.inj h2; exact k82_mk _ _
    · simp at h1
  · rcases j with _ | _ | j
    · obtain rfl := Option.some.inj h2
      rcases i with _ | _ | _ | i <;> first | exact hu | (simp [en82] at hu)
    · obtain rfl := Option.some.inj h2
      rcases i with _ | _ | _ | i <;> first | exact hu | (simp [en82] at hu)
    · simp at h2
theorem C_one82 {W : World} {g : Nat} {x : S82} (hb : W.heap[g]? = some (.cells #[.int .i64 x.f0, .int .i64 x.f1, .string x.f2] 82 (0, 0))) : k82.C W (some ⟨g, 0, none⟩) 1 [x] := by
  refine C_of_blk (xs := [x]) hb [en82 x] rfl (by simp) (fun j z c h1 h2 => ?_) (fun j c h2 i u hu => ?_)
  · rcases j with _ | j
    · obtain rfl := Option.some.inj h1; obtain rfl := Option.some.inj h2; exact k82_mk _ _
    · simp at h1
  · rcases j with _ | j
    · obtain rfl := Option.some.inj h2
      rcases i with _ | _ | _ | i <;> first | exact hu | (simp [en82] at hu)
    · simp at h2
theorem C_two58 {W : World} {g : Nat} {x y : S58} {A1 A2 : Option Addr} {c1 c2 : Nat} (hb : W.heap[g]? = some (.cells #[.slice A1 x.f0.length c1, .int .i64 x.f1.f0, .int .i64 x.f1.f1, .slice A2 y.f0.length c2, .int .i64 y.f1.f0, .int .i64 y.f1.f1] 58 (0, 0)))
    (l1 : x.f0.length ≤ c1) (h1 : k82.C W A1 x.f0.length x.f0) (l2 : y.f0.length ≤ c2) (h2 : k82.C W A2 y.f0.length y.f0) : k58.C W (some ⟨g, 0, none⟩) 2 [x, y] := by
  refine C_of_blk (xs := [x, y]) hb [[.slice A1 x.f0.length c1, .int .i64 x.f1.f0, .int .i64 x.f1.f1], [.slice A2 y.f0.length c2, .int .i64 y.f1.f0, .int .i64 y.f1.f1]] rfl (by simp) (fun j z c e1 e2 => ?_) (fun j c e2 i u hu => ?_)
  · rcases j with _ | _ | j
    · obtain rfl := Option.some.inj e1; obtain rfl := Option.some.inj e2; exact k58_mk _ _ l1 h1
    · obtain rfl := Option.some.inj e1; obtain rfl := Option.some.inj e2; exact k58_mk _ _ l2 h2
    · simp at e1
  · rcases j with _ | _ | j
    · obtain rfl := Option.some.inj e2
      rcases i with _ | _ | _ | i <;> first | exact hu | (simp at hu)
    · obtain rfl := Option.some.inj e2
      rcases i with _ | _ | _ | i <;> first | exact hu | (simp at hu)
    · simp at e2
set_option maxHeartbeats 400000 in
theorem c49 (n : Int) (s : ByteArray) (a b : Int) (w : World) :
    Calls Tryz.prog 49 #[.int .i64 n, .string s, .int .i64 a, .int .i64 b] w fun e w' => ∃ A c, e = .returned (.agg #[.slice A 2 c, .int .i64 a, .int .i64 b]) ∧ 2 ≤ c ∧ k82.C w' A 2 [⟨1, n, ⟨#[]⟩⟩, ⟨2, 0, s⟩] ∧ Below w.heap.size w w' := by
  go_enter Tryz.func49, Tryz.ntmps49
  go_wp2
  have hb1 : ((w.alloc (.cells #[.slice (some ⟨w.heap.size + 1, 0, none⟩) 2 2, .int .i64 a, .int .i64 b] 58)).alloc (.cells #[.int .i64 1, .int .i64 n, .string ⟨#[]⟩, .int .i64 2, .int .i64 0, .string s] 82)).heap[w.heap.size + 1]? = some (.cells #[.int .i64 1, .int .i64 n, .string ⟨#[]⟩, .int .i64 2, .int .i64 0, .string s] 82 (0, 0)) := hd_alloc_eq (by simp)
  have hb0 : ((w.alloc (.cells #[.slice (some ⟨w.heap.size + 1, 0, none⟩) 2 2, .int .i64 a, .int .i64 b] 58)).alloc (.cells #[.int .i64 1, .int .i64 n, .string ⟨#[]⟩, .int .i64 2, .int .i64 0, .string s] 82)).heap[w.heap.size]? = some (.cells #[.slice (some ⟨w.heap.size + 1, 0, none⟩) 2 2, .int .i64 a, .int .i64 b] 58 (0, 0)) := blk_alloc (blk_new _ _) _
  refine bodyPost_ret (results_cell_row rfl _ _ w.heap.size 58 #[.slice (some ⟨w.heap.size + 1, 0, none⟩) 2 2, .int .i64 a, .int .i64 b] (0, 0) _ rfl hb0 Tryz.underlying58 rfl (by kernel_rfl)) rfl ?_
  exact ⟨_, 2, rfl, Nat.le_refl _, C_two82 (x := ⟨1, n, ⟨#[]⟩⟩) (y := ⟨2, 0, s⟩) hb1, below_alloc (below_alloc (Below.refl _ _) _) _⟩
end Go.Proofs.YtiamihkfphmohaaGreatDoor.PA

namespace Go.Proofs.YtiamihkfphmohaaGreatDoor.PA
open Go.RowKit Go.Proofs.YtiamihkfphmohaaGreatDoorW.PrintWords Go.Proofs.YtiamihkfphmohaaGreatDoorW.PrintLast Go.Proofs.YtiamihkfphmohaaGreatDoorW.PrintMore

set_option maxHeartbeats 1000000 in
set_option maxRecDepth 100000 in
theorem c14 (w : World) (hT : TabOK w) : Calls Tryz.prog 14 #[] w fun e w' => e = .returned (.bool true) ∧ Below w.heap.size w w' := by
  have HT := Aside0.mk hT
  clear hT
  go_enter Tryz.func14, Tryz.ntmps14
  go_wp2_with fail
  obtain ⟨g0, hg0⟩ : ∃ g, g = w.heap.size := ⟨_, rfl⟩
  obtain ⟨g1, hg1⟩ : ∃ g, g = w.heap.size + 1 := ⟨_, rfl⟩
  obtain ⟨g2, hg2⟩ : ∃ g, g = w.heap.size + 1 + 1 := ⟨_, rfl⟩
  obtain ⟨g3, hg3⟩ : ∃ g, g = w.heap.size + 1 + 1 + 1 := ⟨_, rfl⟩
  rw [← hg3, ← hg2, ← hg1, ← hg0]
  have hB0 : Below w.heap.size w ((((w.alloc (.cells #[.string ⟨#[97]⟩, .int .i64 1, .bool false, .string ⟨#[98]⟩, .int .i64 2, .bool false] 80)).alloc (.cells #[.int .i64 0] 3)).alloc (.cells #[.string ⟨#[116]⟩, .slice (some ⟨g0, 0, none⟩) 2 2, .slice (some ⟨g1, 0, none⟩) 1 1, .slice none 0 0, .slice none 0 0] 27)).alloc (.cells #[.int .i64 1, .int .i64 1, .string ⟨#[]⟩] 82)) := below_alloc (below_alloc (below_alloc (below_alloc (Below.refl _ _) _) _) _) _
  have hH1 : ((((w.alloc (.cells #[.string ⟨#[97]⟩, .int .i64 1, .bool false, .string ⟨#[98]⟩, .int .i64 2, .bool false] 80)).alloc (.cells #[.int .i64 0] 3)).alloc (.cells #[.string ⟨#[116]⟩, .slice (some ⟨g0, 0, none⟩) 2 2, .slice (some ⟨g1, 0, none⟩) 1 1, .slice none 0 0, .slice none 0 0] 27)).alloc (.cells #[.int .i64 1, .int .i64 1, .string ⟨#[]⟩] 82)).heap[g1]? = some (.cells #[.int .i64 0] 3 (0, 0)) := blk_alloc (blk_alloc (hd_alloc_eq (by rw [hg1]; simp)) _) _
  have hH2 : ((((w.alloc (.cells #[.string ⟨#[97]⟩, .int .i64 1, .bool false, .string ⟨#[98]⟩, .int .i64 2, .bool false] 80)).alloc (.cells #[.int .i64 0] 3)).alloc (.cells #[.string ⟨#[116]⟩, .slice (some ⟨g0, 0, none⟩) 2 2, .slice (some ⟨g1, 0, none⟩) 1 1, .slice none 0 0, .slice none 0 0] 27)).alloc (.cells #[.int .i64 1, .int .i64 1, .string ⟨#[]⟩] 82)).heap[g2]? = some (.cells #[.string ⟨#[116]⟩, .slice (some ⟨g0, 0, none⟩) 2 2, .slice (some ⟨g1, 0, none⟩) 1 1, .slice none 0 0, .slice none 0 0] 27 (0, 0)) := blk_alloc (hd_alloc_eq (by rw [hg2]; simp)) _
  have hH3 : ((((w.alloc (.cells #[.string ⟨#[97]⟩, .int .i64 1, .bool false, .string ⟨#[98]⟩, .int .i64 2, .bool false] 80)).alloc (.cells #[.int .i64 0] 3)).alloc (.cells #[.string ⟨#[116]⟩, .slice (some ⟨g0, 0, none⟩) 2 2, .slice (some ⟨g1, 0, none⟩) 1 1, .slice none 0 0, .slice none 0 0] 27)).alloc (.cells #[.int .i64 1, .int .i64 1, .string ⟨#[]⟩] 82)).heap[g3]? = some (.cells #[.int .i64 1, .int .i64 1, .string ⟨#[]⟩] 82 (0, 0)) := hd_alloc_eq (by rw [hg3]; simp)
  generalize ((((w.alloc (.cells #[.string ⟨#[97]⟩, .int .i64 1, .bool false, .string ⟨#[98]⟩, .int .i64 2, .bool false] 80)).alloc (.cells #[.int .i64 0] 3)).alloc (.cells #[.string ⟨#[116]⟩, .slice (some ⟨g0, 0, none⟩) 2 2, .slice (some ⟨g1, 0, none⟩) 1 1, .slice none 0 0, .slice none 0 0] 27)).alloc (.cells #[.int .i64 1, .int .i64 1, .string ⟨#[]⟩] 82)) = W0 at *
  have hCc : (Kd.int .i64).C W0 (some ⟨g1, 0, none⟩) 1 [0] := C_blk_ints hH1 [0] rfl 1 rfl (by decide)
  have hCk : k82.C W0 (some ⟨g3, 0, none⟩) 1 aKey := C_one82 (x := aV) hH3
  have HB := Aside0.mk hB0
  have HTB := Aside0.mk hH2
  have HC := Aside0.mk hCc
  have HK := Aside0.mk hCk
  clear hB0 hH1 hH2 hH3 hCc hCk hg0 hg1 hg2 hg3
  refine (c49 1 ⟨#[120]⟩ 0 5 _).mono ?_
  rintro e w1 ⟨A1, c1, rfl, hc1, hC1, hb1⟩
  have HC1 := Aside0.mk hC1
  clear hC1
  go_wp2_with fail
  refine (c49 1 ⟨#[121]⟩ 5 9 _).mono ?_
  rintro e w2 ⟨A2, c2, rfl, hc2, hC2, hb2⟩
  have HC2 := Aside0.mk hC2
  clear hC2
  go_wp2_with fail
  have hbg : Below w2.heap.size w2 (w2.alloc (.cells #[.slice A1 2 c1, .int .i64 0, .int .i64 5, .slice A2 2 c2, .int .i64 5, .int .i64 9] 58)) := below_alloc (Below.refl _ _) _
  have hG : k58.C (w2.alloc (.cells #[.slice A1 2 c1, .int .i64 0, .int .i64 5, .slice A2 2 c2, .int .i64 5, .int .i64 9] 58)) (some ⟨w2.heap.size, 0, none⟩) 2 aGood := C_two58 (x := ⟨aR1, ⟨0, 5⟩⟩) (y := ⟨aR2, ⟨5, 9⟩⟩) (blk_new _ _) hc1 (Kd.C_below HC1.out (bthen hb2 hbg)) hc2 (Kd.C_below HC2.out hbg)
  have hb02 := bthen (bthen hb1 hb2) hbg
  have HG := Aside0.mk hG
  clear hG hb1 hb2 HC1 HC2 hbg
  generalize w2.alloc (.cells #[.slice A1 2 c1, .int .i64 0, .int .i64 5, .slice A2 2 c2, .int .i64 5, .int .i64 9] 58) = W2 at *
  generalize w2.heap.size = gG at *
  refine (c49 1 ⟨#[120]⟩ 0 5 _).mono ?_
  rintro e w3 ⟨A3, c3, rfl, hc3, hC3, hb3⟩
  have HC3 := Aside0.mk hC3
  clear hC3
  go_wp2_with fail
  refine (c49 1 ⟨#[121]⟩ 4 9 _).mono ?_
  rintro e w4 ⟨A4, c4, rfl, hc4, hC4, hb4⟩
  have hbg : Below w4.heap.size w4 (w4.alloc (.cells #[.slice A3 2 c3, .int .i64 0, .int .i64 5, .slice A4 2 c4, .int .i64 4, .int .i64 9] 58)) := below_alloc (Below.refl _ _) _
  have hB : k58.C (w4.alloc (.cells #[.slice A3 2 c3, .int .i64 0, .int .i64 5, .slice A4 2 c4, .int .i64 4, .int .i64 9] 58)) (some ⟨w4.heap.size, 0, none⟩) 2 aBad := C_two58 (x := ⟨aR1, ⟨0, 5⟩⟩) (y := ⟨aR2, ⟨4, 9⟩⟩) (blk_new _ _) hc3 (Kd.C_below HC3.out (bthen hb4 hbg)) hc4 (Kd.C_below hC4 hbg)
  have hb24 := bthen (bthen hb3 hb4) hbg
  have hb04 := bthen hb02 hb24
  have hH2 := blk_below HTB.out hb04
  have t0 : (w4.alloc (.cells #[.slice A3 2 c3, .int .i64 0, .int .i64 5, .slice A4 2 c4, .int .i64 4, .int .i64 9] 58)).cell? ⟨g2, 0, none⟩ = some (.string ⟨#[116]⟩) := by rw [blk_cell hH2]; rfl
  have t1 : (w4.alloc (.cells #[.slice A3 2 c3, .int .i64 0, .int .i64 5, .slice A4 2 c4, .int .i64 4, .int .i64 9] 58)).cell? ⟨g2, 1, none⟩ = some (.slice (some ⟨g0, 0, none⟩) 2 2) := by rw [blk_cell hH2]; rfl
  have t2 : (w4.alloc (.cells #[.slice A3 2 c3, .int .i64 0, .int .i64 5, .slice A4 2 c4, .int .i64 4, .int .i64 9] 58)).cell? ⟨g2, 2, none⟩ = some (.slice (some ⟨g1, 0, none⟩) 1 1) := by rw [blk_cell hH2]; rfl
  have t3 : (w4.alloc (.cells #[.slice A3 2 c3, .int .i64 0, .int .i64 5, .slice A4 2 c4, .int .i64 4, .int .i64 9] 58)).cell? ⟨g2, 3, none⟩ = some (.slice none 0 0) := by rw [blk_cell hH2]; rfl
  have t4 : (w4.alloc (.cells #[.slice A3 2 c3, .int .i64 0, .int .i64 5, .slice A4 2 c4, .int .i64 4, .int .i64 9] 58)).cell? ⟨g2, 4, none⟩ = some (.slice none 0 0) := by rw [blk_cell hH2]; rfl
  have tl := World.block_lt_of_cell? _ _ t0
  have HBD := Aside0.mk hB
  have HB4 := Aside0.mk (bthen HB.out hb04)
  have HTB4 := Aside0.mk hH2
  have HC4 := Aside0.mk (Kd.C_below HC.out hb04)
  have HK4 := Aside0.mk (Kd.C_below HK.out hb04)
  have HG4 := Aside0.mk (Kd.C_below HG.out hb24)
  clear hB hC4 hb3 hb4 hbg hb24 hb04 hb02 hH2 HB HTB HC HK HG HC3
  go_wp2_with fail
  generalize w4.alloc (.cells #[.slice A3 2 c3, .int .i64 0, .int .i64 5, .slice A4 2 c4, .int .i64 4, .int .i64 9] 58) = W4 at *
  generalize w4.heap.size = gB at *
  have hr0 : ∀ x ∈ aBad, x.f0.length ≤ 1000000 := aOKB.len
  refine (c33 ⟨#[116]⟩ (.slice (some ⟨g0, 0, none⟩) 2 2) (.slice none 0 0) (.slice none 0 0) (some ⟨g1, 0, none⟩) 1 1 [0] (some ⟨gB, 0, none⟩) 2 2 aBad W4 HC4.out (by decide) HBD.out (by decide) (tab_below HT.out HB4.out) (aOKB.keys (by decide)) aOKB.all aOKB.len).mono ?_
  rintro e w5 ⟨v5, gs, facts, out, rfl, hgok, hbu, hvi, _, hN5, hb5⟩
  obtain rfl := aVio hgok hbu hvi
  obtain ⟨A5, c5, rfl, hc5, hC5⟩ := Kd.N_reads hN5
  have hH2 := blk_below HTB4.out hb5
  clear t0 t1 t2 t3 t4 tl
  have t0 : (w5).cell? ⟨g2, 0, none⟩ = some (.string ⟨#[116]⟩) := by rw [blk_cell hH2]; rfl
  have t1 : (w5).cell? ⟨g2, 1, none⟩ = some (.slice (some ⟨g0, 0, none⟩) 2 2) := by rw [blk_cell hH2]; rfl
  have t2 : (w5).cell? ⟨g2, 2, none⟩ = some (.slice (some ⟨g1, 0, none⟩) 1 1) := by rw [blk_cell hH2]; rfl
  have t3 : (w5).cell? ⟨g2, 3, none⟩ = some (.slice none 0 0) := by rw [blk_cell hH2]; rfl
  have t4 : (w5).cell? ⟨g2, 4, none⟩ = some (.slice none 0 0) := by rw [blk_cell hH2]; rfl
  have tl := World.block_lt_of_cell? _ _ t0
  have HB5 := Aside0.mk (bthen HB4.out hb5)
  have HTB5 := Aside0.mk hH2
  have HC5 := Aside0.mk (Kd.C_below HC4.out hb5)
  have HK5 := Aside0.mk (Kd.C_below HK4.out hb5)
  have HG5 := Aside0.mk (Kd.C_below HG4.out hb5)
  have HBD5 := Aside0.mk (Kd.C_below HBD.out hb5)
  have HV5 := Aside0.mk hC5
  clear hC5 hN5 hgok hbu hvi hb5 hH2 HB4 HTB4 HC4 HK4 HG4 HBD
  go_wp2_with fail
  refine (c35 ⟨#[116]⟩ (.slice (some ⟨g0, 0, none⟩) 2 2) (.slice none 0 0) (.slice none 0 0) (some ⟨g1, 0, none⟩) 1 1 [0] (some ⟨gB, 0, none⟩) 2 2 aBad (some ⟨g3, 0, none⟩) 1 1 aKey 4 w5 HC5.out (by decide) HBD5.out (by decide) HK5.out aOKB.len).mono ?_
  rintro e w6 ⟨A6, c6, ys, rfl, hp6, hs6, hC6, hc6, hb6⟩
  obtain rfl := aAt hp6 hs6
  have hrd : rd_L3 [aR1, aR2] 0 = aR1 := rfl
  have hde : decide ([aR1, aR2] ≠ ([] : List (List S82))) = true := decide_eq_true (by simp)
  rw [hrd, hde] at *
  have hH2 := blk_below HTB5.out hb6
  clear t0 t1 t2 t3 t4 tl
  have t0 : (w6).cell? ⟨g2, 0, none⟩ = some (.string ⟨#[116]⟩) := by rw [blk_cell hH2]; rfl
  have t1 : (w6).cell? ⟨g2, 1, none⟩ = some (.slice (some ⟨g0, 0, none⟩) 2 2) := by rw [blk_cell hH2]; rfl
  have t2 : (w6).cell? ⟨g2, 2, none⟩ = some (.slice (some ⟨g1, 0, none⟩) 1 1) := by rw [blk_cell hH2]; rfl
  have t3 : (w6).cell? ⟨g2, 3, none⟩ = some (.slice none 0 0) := by rw [blk_cell hH2]; rfl
  have t4 : (w6).cell? ⟨g2, 4, none⟩ = some (.slice none 0 0) := by rw [blk_cell hH2]; rfl
  have tl := World.block_lt_of_cell? _ _ t0
  have HB6 := Aside0.mk (bthen HB5.out hb6)
  have HTB6 := Aside0.mk hH2
  have HC6 := Aside0.mk (Kd.C_below HC5.out hb6)
  have HK6 := Aside0.mk (Kd.C_below HK5.out hb6)
  have HG6 := Aside0.mk (Kd.C_below HG5.out hb6)
  have HBD6 := Aside0.mk (Kd.C_below HBD5.out hb6)
  have HV6 := Aside0.mk (Kd.C_below HV5.out hb6)
  have HR6 := Aside0.mk hC6
  clear hC6 hp6 hs6 hrd hde hb6 hH2 HB5 HTB5 HC5 HK5 HG5 HBD5 HV5
  go_wp2_with fail
  refine (c30 ⟨#[116]⟩ (.slice (some ⟨g0, 0, none⟩) 2 2) (.slice none 0 0) (.slice none 0 0) (some ⟨g1, 0, none⟩) 1 1 [0] (some ⟨gG, 0, none⟩) 2 2 aGood w6 HC6.out (by decide) HG6.out (by decide) (tab_below HT.out HB6.out) (aOKG.keys (by decide))).mono ?_
  rintro e w7 ⟨b7, rfl, hb7e, hb7⟩
  obtain rfl : b7 = true := hb7e.2 aHoldsG
  have hH2 := blk_below HTB6.out hb7
  clear t0 t1 t2 t3 t4 tl
  have t0 : (w7).cell? ⟨g2, 0, none⟩ = some (.string ⟨#[116]⟩) := by rw [blk_cell hH2]; rfl
  have t1 : (w7).cell? ⟨g2, 1, none⟩ = some (.slice (some ⟨g0, 0, none⟩) 2 2) := by rw [blk_cell hH2]; rfl
  have t2 : (w7).cell? ⟨g2, 2, none⟩ = some (.slice (some ⟨g1, 0, none⟩) 1 1) := by rw [blk_cell hH2]; rfl
  have t3 : (w7).cell? ⟨g2, 3, none⟩ = some (.slice none 0 0) := by rw [blk_cell hH2]; rfl
  have t4 : (w7).cell? ⟨g2, 4, none⟩ = some (.slice none 0 0) := by rw [blk_cell hH2]; rfl
  have tl := World.block_lt_of_cell? _ _ t0
  have HB7 := Aside0.mk (bthen HB6.out hb7)
  have HTB7 := Aside0.mk (blk_below HTB6.out hb7)
  have HC7 := Aside0.mk (Kd.C_below HC6.out hb7)
  have HK7 := Aside0.mk (Kd.C_below HK6.out hb7)
  have HG7 := Aside0.mk (Kd.C_below HG6.out hb7)
  have HBD7 := Aside0.mk (Kd.C_below HBD6.out hb7)
  have HV7 := Aside0.mk (Kd.C_below HV6.out hb7)
  have HR7 := Aside0.mk (Kd.C_below HR6.out hb7)
  clear HB6 HTB6 HC6 HK6 HG6 HBD6 HV6 HR6
  clear hb7 hb7e hH2
  go_wp2_with fail
  refine (c30 ⟨#[116]⟩ (.slice (some ⟨g0, 0, none⟩) 2 2) (.slice none 0 0) (.slice none 0 0) (some ⟨g1, 0, none⟩) 1 1 [0] (some ⟨gB, 0, none⟩) 2 2 aBad w7 HC7.out (by decide) HBD7.out (by decide) (tab_below HT.out HB7.out) (aOKB.keys (by decide))).mono ?_
  rintro e w8 ⟨b8, rfl, hb8e, hb8⟩
  obtain rfl : b8 = false := by
    rw [Bool.eq_false_iff]
    exact fun h => aHoldsB (hb8e.1 h)
  have hH2 := blk_below HTB7.out hb8
  clear t0 t1 t2 t3 t4 tl
  have t0 : (w8).cell? ⟨g2, 0, none⟩ = some (.string ⟨#[116]⟩) := by rw [blk_cell hH2]; rfl
  have t1 : (w8).cell? ⟨g2, 1, none⟩ = some (.slice (some ⟨g0, 0, none⟩) 2 2) := by rw [blk_cell hH2]; rfl
  have t2 : (w8).cell? ⟨g2, 2, none⟩ = some (.slice (some ⟨g1, 0, none⟩) 1 1) := by rw [blk_cell hH2]; rfl
  have t3 : (w8).cell? ⟨g2, 3, none⟩ = some (.slice none 0 0) := by rw [blk_cell hH2]; rfl
  have t4 : (w8).cell? ⟨g2, 4, none⟩ = some (.slice none 0 0) := by rw [blk_cell hH2]; rfl
  have tl := World.block_lt_of_cell? _ _ t0
  have HB8 := Aside0.mk (bthen HB7.out hb8)
  have HTB8 := Aside0.mk (blk_below HTB7.out hb8)
  have HC8 := Aside0.mk (Kd.C_below HC7.out hb8)
  have HK8 := Aside0.mk (Kd.C_below HK7.out hb8)
  have HG8 := Aside0.mk (Kd.C_below HG7.out hb8)
  have HBD8 := Aside0.mk (Kd.C_below HBD7.out hb8)
  have HV8 := Aside0.mk (Kd.C_below HV7.out hb8)
  have HR8 := Aside0.mk (Kd.C_below HR7.out hb8)
  clear HB7 HTB7 HC7 HK7 HG7 HBD7 HV7 HR7
  clear hb8 hb8e hH2
  obtain ⟨xb, A8, c8, exb, x0, x1, x2, hle8, hrow8⟩ := at_T58 HBD8.out 0 (by decide) (by decide)
  have hx0 : w8.cell? ⟨gB, 0, none⟩ = some (.slice A8 (rd_T58 aBad 0).f0.length c8) := by
    obtain rfl := Option.some.inj exb
    exact x0
  have xbl := World.block_lt_of_cell? _ _ hx0
  have HW8 := Aside0.mk hrow8
  clear x0 x1 x2 exb hrow8
  go_wp2_with fail
  refine (c37 A6 _ c6 aR1 A8 _ c8 (rd_T58 aBad 0).f0 w8 HR8.out HW8.out).mono ?_
  rintro e w9 ⟨rfl, hb9⟩
  have hcmp : rcmp aR1 (rd_T58 aBad 0).f0 = 0 := rcmp_ord.refl aR1
  rw [hcmp]
  have hH2 := blk_below HTB8.out hb9
  clear t0 t1 t2 t3 t4 tl
  have t0 : (w9).cell? ⟨g2, 0, none⟩ = some (.string ⟨#[116]⟩) := by rw [blk_cell hH2]; rfl
  have t1 : (w9).cell? ⟨g2, 1, none⟩ = some (.slice (some ⟨g0, 0, none⟩) 2 2) := by rw [blk_cell hH2]; rfl
  have t2 : (w9).cell? ⟨g2, 2, none⟩ = some (.slice (some ⟨g1, 0, none⟩) 1 1) := by rw [blk_cell hH2]; rfl
  have t3 : (w9).cell? ⟨g2, 3, none⟩ = some (.slice none 0 0) := by rw [blk_cell hH2]; rfl
  have t4 : (w9).cell? ⟨g2, 4, none⟩ = some (.slice none 0 0) := by rw [blk_cell hH2]; rfl
  have tl := World.block_lt_of_cell? _ _ t0
  have HB9 := Aside0.mk (bthen HB8.out hb9)
  have HTB9 := Aside0.mk (blk_below HTB8.out hb9)
  have HC9 := Aside0.mk (Kd.C_below HC8.out hb9)
  have HK9 := Aside0.mk (Kd.C_below HK8.out hb9)
  have HG9 := Aside0.mk (Kd.C_below HG8.out hb9)
  have HBD9 := Aside0.mk (Kd.C_below HBD8.out hb9)
  have HV9 := Aside0.mk (Kd.C_below HV8.out hb9)
  have HR9 := Aside0.mk (Kd.C_below HR8.out hb9)
  clear HB8 HTB8 HC8 HK8 HG8 HBD8 HV8 HR8
  clear hb9 hH2 hx0 xbl hcmp HW8 hle8
  go_wp2_with fail
  obtain ⟨xv, A30, c30_, exv, v00, v01, v02, v03, v04, v05, _, _⟩ := at_T52 HV9.out 0 (by decide) (by decide)
  obtain ⟨xv', A31, c31_, exv', v10, v11, v12, v13, v14, v15, _, _⟩ := at_T52 HV9.out 1 (by decide) (by decide)
  obtain rfl := Option.some.inj (exv.symm.trans exv')
  subst exv
  have hbp : Below w9.heap.size w9 (w9.alloc (.cells #[.int .i64 4, .int .i64 5] 50)) := below_alloc (Below.refl _ _) _
  have hpb := blk_new w9 (.cells #[.int .i64 4, .int .i64 5] 50)
  have hH2 := blk_below HTB9.out hbp
  clear t0 t1 t2 t3 t4 tl
  have t0 : (w9.alloc (.cells #[.int .i64 4, .int .i64 5] 50)).cell? ⟨g2, 0, none⟩ = some (.string ⟨#[116]⟩) := by rw [blk_cell hH2]; rfl
  have t1 : (w9.alloc (.cells #[.int .i64 4, .int .i64 5] 50)).cell? ⟨g2, 1, none⟩ = some (.slice (some ⟨g0, 0, none⟩) 2 2) := by rw [blk_cell hH2]; rfl
  have t2 : (w9.alloc (.cells #[.int .i64 4, .int .i64 5] 50)).cell? ⟨g2, 2, none⟩ = some (.slice (some ⟨g1, 0, none⟩) 1 1) := by rw [blk_cell hH2]; rfl
  have t3 : (w9.alloc (.cells #[.int .i64 4, .int .i64 5] 50)).cell? ⟨g2, 3, none⟩ = some (.slice none 0 0) := by rw [blk_cell hH2]; rfl
  have t4 : (w9.alloc (.cells #[.int .i64 4, .int .i64 5] 50)).cell? ⟨g2, 4, none⟩ = some (.slice none 0 0) := by rw [blk_cell hH2]; rfl
  have tl := World.block_lt_of_cell? _ _ t0
  have HB10 := Aside0.mk (bthen HB9.out hbp)
  have HTB10 := Aside0.mk (blk_below HTB9.out hbp)
  have HC10 := Aside0.mk (Kd.C_below HC9.out hbp)
  have HK10 := Aside0.mk (Kd.C_below HK9.out hbp)
  have HG10 := Aside0.mk (Kd.C_below HG9.out hbp)
  have HBD10 := Aside0.mk (Kd.C_below HBD9.out hbp)
  have HV10 := Aside0.mk (Kd.C_below HV9.out hbp)
  have HR10 := Aside0.mk (Kd.C_below HR9.out hbp)
  clear HB9 HTB9 HC9 HK9 HG9 HBD9 HV9 HR9
  have p0 : (w9.alloc (.cells #[.int .i64 4, .int .i64 5] 50)).cell? ⟨w9.heap.size, 0, none⟩ = some (.int .i64 4) := by rw [blk_cell hpb]; rfl
  have p1 : (w9.alloc (.cells #[.int .i64 4, .int .i64 5] 50)).cell? ⟨w9.heap.size, 1, none⟩ = some (.int .i64 5) := by rw [blk_cell hpb]; rfl
  replace v04 := pw_cell_below hbp v04
  replace v05 := pw_cell_below hbp v05
  replace v10 := pw_cell_below hbp v10
  replace v11 := pw_cell_below hbp v11
  replace v14 := pw_cell_below hbp v14
  replace v15 := pw_cell_below hbp v15
  generalize w9.alloc (.cells #[.int .i64 4, .int .i64 5] 50) = wa at *
  have hx6 : xv.add 6 = ⟨xv.block, xv.off + 6, none⟩ := by simp [Addr.add]
  have k04 : wa.cell? ⟨xv.block, xv.off + 4, none⟩ = some (.int .i64 4) := by
    have h := v04
    rw [show (0 : Int).toNat * 6 = 0 from rfl, show xv.add 0 = xv from by simp [Addr.add]] at h
    exact h
  have k05 : wa.cell? ⟨xv.block, xv.off + 5, none⟩ = some (.int .i64 5) := by
    have h := v05
    rw [show (0 : Int).toNat * 6 = 0 from rfl, show xv.add 0 = xv from by simp [Addr.add]] at h
    exact h
  have k10 : wa.cell? ⟨xv.block, xv.off + 6, none⟩ = some (.int .i64 2) := by
    have h := v10
    rw [show (1 : Int).toNat * 6 = 6 from rfl, hx6] at h
    exact h
  have k11 : wa.cell? ⟨xv.block, xv.off + 6 + 1, none⟩ = some (.string ⟨#[116]⟩) := by
    have h := v11
    rw [show (1 : Int).toNat * 6 = 6 from rfl, hx6] at h
    exact h
  have k14 : wa.cell? ⟨xv.block, xv.off + 6 + 4, none⟩ = some (.int .i64 4) := by
    have h := v14
    rw [show (1 : Int).toNat * 6 = 6 from rfl, hx6] at h
    exact h
  have k15 : wa.cell? ⟨xv.block, xv.off + 6 + 5, none⟩ = some (.int .i64 5) := by
    have h := v15
    rw [show (1 : Int).toNat * 6 = 6 from rfl, hx6] at h
    exact h
  generalize w9.heap.size = gp at *
  clear hx6 v00 v01 v02 v03 v04 v05 v10 v11 v12 v13 v14 v15 exv' hH2 hpb hbp
  go_wp2_with fail
  go_region_held3 (fun W => Below wa.heap.size wa W ∧ W.cell? ⟨xv.block, xv.off + 4, none⟩ = some (.int .i64 4) ∧ W.cell? ⟨xv.block, xv.off + 5, none⟩ = some (.int .i64 5) ∧ W.cell? ⟨xv.block, xv.off + 6, none⟩ = some (.int .i64 2) ∧ W.cell? ⟨xv.block, xv.off + 6 + 1, none⟩ = some (.string ⟨#[116]⟩) ∧ W.cell? ⟨xv.block, xv.off + 6 + 4, none⟩ = some (.int .i64 4) ∧ W.cell? ⟨xv.block, xv.off + 6 + 5, none⟩ = some (.int .i64 5) ∧ W.cell? ⟨gp, 0, none⟩ = some (.int .i64 4) ∧ W.cell? ⟨gp, 1, none⟩ = some (.int .i64 5) ∧ W.cell? ⟨g2, 0, none⟩ = some (.string ⟨#[116]⟩) ∧ W.cell? ⟨g2, 1, none⟩ = some (.slice (some ⟨g0, 0, none⟩) 2 2) ∧ W.cell? ⟨g2, 2, none⟩ = some (.slice (some ⟨g1, 0, none⟩) 1 1) ∧ W.cell? ⟨g2, 3, none⟩ = some (.slice none 0 0) ∧ W.cell? ⟨g2, 4, none⟩ = some (.slice none 0 0))
    (first
      | (go_split_ands; refine ⟨?_, ?_, ?_, ?_, ?_, ?_, ?_, ?_, ?_, ?_, ?_, ?_, ?_, ?_⟩ <;> first | exact bthen (by assumption) hbc | exact pw_cell_below hbc (by assumption))
      | (go_split_ands; refine ⟨?_, ?_, ?_, ?_, ?_, ?_, ?_, ?_, ?_, ?_, ?_, ?_, ?_, ?_⟩ <;> first | exact below_drew (Below.refl _ _) | exact below_alloc (by assumption) _ | exact pw_cell_below (below_drew (Below.refl _ _)) (by assumption) | exact pw_cell_below (below_alloc (Below.refl _ _) _) (by assumption) | go_keep))
    (first
      | (go_at_call 24; refine (c39 ⟨#[116]⟩ (.slice (some ⟨g0, 0, none⟩) 2 2) (.slice none 0 0) (.slice none 0 0) (some ⟨g1, 0, none⟩) 1 1 [0] (some ⟨gG, 0, none⟩) 2 2 aGood (some ⟨g3, 0, none⟩) 1 1 aKey _ (Kd.C_below HC10.out (And.left (by assumption))) (by decide) (Kd.C_below HG10.out (And.left (by assumption))) (by decide) (Kd.C_below HK10.out (And.left (by assumption)))).mono ?_; rintro e w11 ⟨v11_, r, rfl, hr1, hr2, _, hR, hb11⟩; obtain rfl := aLife hr1 hr2; obtain ⟨A11, c11, rfl⟩ := Kd.R_slice hR; have hbc := hb11)
      | (go_at_call 23; refine (c28s A11 _ c11 [⟨0, 9⟩] _ _ _ [⟨0, 9⟩] _ (by first | exact (Kd.R_reads' hR).2.2 | exact Kd.C_below (Kd.R_reads' hR).2.2 (below_alloc (Below.refl _ _) _)) (C_one (by first | exact blk_new _ _ | exact blk_below (blk_new _ _) hb11 | exact blk_below (blk_drew (blk_new _ _)) hb11))).mono ?_; rintro e w12 ⟨rfl, hb12⟩; clear hbc; have hbc := hb12; have hbf : Below wa.heap.size wa w12 := bthen (And.left (by assumption)) hb12; rw [sameP_iff.2 (rfl : ([⟨0, 9⟩] : List S50) = [⟨0, 9⟩])]))
  all_goals
    go_wp2
    go_ret
    exact ⟨rfl, bthen HB10.out hbf⟩
end Go.Proofs.YtiamihkfphmohaaGreatDoor.PA

namespace Go.Proofs.YtiamihkfphmohaaGreatDoor.PA
open Go.RowKit Go.Proofs.YtiamihkfphmohaaGreatDoorW.PrintWords Go.Proofs.YtiamihkfphmohaaGreatDoorW.PrintLast Go.Proofs.YtiamihkfphmohaaGreatDoorW.PrintMore

open Go.Sort
attribute [local irreducible] Go.wpQuiet
theorem u16w (b : Int) : 0 ≤ IntKind.u16.wrap b ∧ IntKind.u16.wrap b ≤ 65535 := by
  simp only [IntKind.wrap, IntKind.signed, IntKind.bits]
  simp
  omega
set_option maxHeartbeats 4000000 in
set_option maxRecDepth 100000 in
/-- UniqueParts returns true. -/
theorem c7 (t : Tbl) (A1 A2 A3 A4 : Option Addr) (c1 c2 c3 c4 : Nat) (l : List S58) (A : Option Addr) (c : Nat) (b : Int) (w : World) (hT : TK w t A1 A2 A3 A4 c1 c2 c3 c4) (hI : TIn t) (hL : k58.C w A l.length l) (hF : ∀ x ∈ l, FIn x) (hb : 0 ≤ b ∧ b ≤ 65535) (hTb : TabOK w) : Calls Tryz.prog 7 #[.agg #[.string t.nm, .slice A1 t.cols.length c1, .slice A2 t.key.length c2, .slice A3 t.fors.length c3, .slice A4 t.chks.length c4], .slice A l.length c, .int .u16 b] w fun e w' => e = .returned (.bool true) ∧ Below w.heap.size w w' := by
  have HT := Aside0.mk hT
  have HI := Lib.hid hI
  have HL := Aside0.mk hL
  have HF := Lib.hid hF
  have HTB := Aside0.mk hTb
  have hpt := blk_new w (.cells #[.string t.nm, .slice A1 t.cols.length c1, .slice A2 t.key.length c2, .slice A3 t.fors.length c3, .slice A4 t.chks.length c4] 27)
  clear hT hI hL hF hTb
  go_enter Tryz.func7, Tryz.ntmps7
  go_wp2_with fail
  refine (q13 t A1 A2 A3 A4 c1 c2 c3 c4 l A c _ (HT.out.below (below_alloc (Below.refl _ _) _)) HI.out (Kd.C_below HL.out (below_alloc (Below.refl _ _) _)) HF.out).mono ?_
  rintro e w1 ⟨b1, rfl, h1, hb1⟩
  have HB := Aside0.mk (bel1 hb1)
  have HX := Aside0.mk (blk_below hpt hb1)
  have HP := Lib.hid h1
  clear hpt hb1 h1
  cases b1 with
  | false =>
    go_wp2_with fail
    refine (c14 _ (tab_below HTB.out HB.out)).mono ?_
    rintro e w2 ⟨rfl, hb2⟩
    have HB2 := Aside0.mk (bthen HB.out hb2)
    clear hb2
    go_wp2
    go_ret
    exact ⟨rfl, HB2.out⟩
  | true =>
  replace HP := Lib.hid (HP.out rfl)
  have hll : l.length ≤ 16 := by have := HP.out.few.1; omega
  have hkl : t.key.length ≤ 1000000 := by have := HP.out.bel.key; have := HP.out.cols; omega
  have hkl2 : t.key.length ≤ 1000 := by have := HP.out.bel.key; have := HP.out.cols; omega
  go_wp2
  go_loopw [2, 7, 8] (fun bv pv_ i wr => ∃ (k : Nat) (b : Int) (pl : List S58), bv = .int .u16 b ∧ 0 ≤ b ∧ b ≤ 65535 ∧ i = .int .i64 k ∧ k ≤ l.length ∧ Aside0 (Below w.heap.size w wr) ∧ Aside0 (wr.heap[w.heap.size]? = some (.cells #[.string t.nm, .slice A1 t.cols.length c1, .slice A2 t.key.length c2, .slice A3 t.fors.length c3, .slice A4 t.chks.length c4] 27 (0, 0))) ∧ Aside0 (pl.Sublist (l.take k)) ∧ Aside0 (Kd.N k58 58 wr w.heap.size (fun _ => True) pv_ pl)) (fun _ _ i _ => l.length - (intOf i).toNat)
  case atStart => exact ⟨0, b, [], rfl, hb.1, hb.2, rfl, Nat.zero_le _, HB, HX, ⟨List.nil_sublist _⟩, ⟨Kd.N_nil _ _ _ _ _⟩⟩
  case round =>
    clear HB HX hb
    obtain ⟨k, b, pl, rfl, hb0, hb1, rfl, hk', HB, HX, HS, HN⟩ := hrel
    by_cases h1 : k < l.length
    · have hk1 : (0 : Int) ≤ k := by omega
      have hk2 : (k : Int) < l.length := by omega
      have hdv := u16w (b.tdiv 2)
      by_cases hbt : b % 2 = 1
      · have hbt1 : (b % 2 == 1) = true := by simp [hbt]
        obtain ⟨xa, A3, c3, rfl, x0, x1, x2, hle, hrow⟩ := at_T58 HL.out k (by omega) (by omega)
        rw [Int.toNat_natCast] at x0 x1 x2
        replace x0 := pw_cell_below HB.out x0
        replace x1 := pw_cell_below HB.out x1
        replace x2 := pw_cell_below HB.out x2
        have HFF := Aside0.mk (Kd.F_below (Kd.C_F k82_heap hrow) HB.out)
        have hpl : pl.length ≤ l.length := by have := HS.out.length_le; rw [List.length_take] at this; omega
        clear hrow
        go_wp2_with (at_builtin; refine Kd.N_append k58 (w0 := w) w.heap.size rfl (.tmp 23) (.tmp 28) 28 58 (.agg #[(.slice none 0 0), (.int .i64 0), (.int .i64 0)]) 40 rfl Tryz.underlying28 info58 rfl (by decide) (by omega) u7 pl (rd_T58 l k) [.slice A3 (rd_T58 l k).f0.length c3, .int .i64 (rd_T58 l k).f1.f0, .int .i64 (rd_T58 l k).f1.f1] (fun _ => True) (fun k_ => k_ < w.heap.size) rfl rfl (k58_mkF _ _ (rd_T58 l k) hle HFF.out) (fun k_ hk => ⟨trivial, fun e_ => by have := Kd.N_base HN.out k_ e_.symm; omega⟩) (fun _ _ => trivial) ?aO ?aB ?aS ?aL ?_; (case aO => exact HN.out); (case aB => exact HB.out); (case aS => exact (below_size HB.out)); (case aL => exact (by omega)); intro v1 w1 ho hb hg hat; skip)
        exact ⟨⟨k + 1, _, pl ++ [rd_T58 l k], rfl, hdv.1, hdv.2, by go_num, h1, ⟨hb⟩, ⟨blk_grown HX.out hg (N_apart HN.out HX.out (by intro cs e; injection e with _ e2; cases e2))⟩, ⟨sub_push HS.out h1⟩, ⟨ho⟩⟩, by simp [intOf]; omega⟩
      · have hbt1 : (b % 2 == 1) = false := by simp [hbt]
        go_wp2
        exact ⟨⟨k + 1, _, pl, rfl, hdv.1, hdv.2, by go_num, h1, HB, HX, ⟨sub_keep HS.out h1⟩, HN⟩, by simp [intOf]; omega⟩
    · have HSL := Lib.hid (show pl.Sublist l from by have := HS.out; rw [List.take_of_length_le (by omega)] at this; exact this)
      have hpl : pl.length ≤ l.length := HSL.out.length_le
      obtain ⟨A5, c5, rfl, hc5, hC5⟩ := Kd.N_reads HN.out
      have HC5 := Aside0.mk hC5
      clear hC5 HS HN
      have t0 : (wr).cell? ⟨w.heap.size, 0, none⟩ = some (.string t.nm) := by rw [blk_cell HX.out]; rfl
      have t1 : (wr).cell? ⟨w.heap.size, 1, none⟩ = some (.slice A1 t.cols.length c1) := by rw [blk_cell HX.out]; rfl
      have t2 : (wr).cell? ⟨w.heap.size, 2, none⟩ = some (.slice A2 t.key.length c2) := by rw [blk_cell HX.out]; rfl
      have t3 : (wr).cell? ⟨w.heap.size, 3, none⟩ = some (.slice A3 t.fors.length c3) := by rw [blk_cell HX.out]; rfl
      have t4 : (wr).cell? ⟨w.heap.size, 4, none⟩ = some (.slice A4 t.chks.length c4) := by rw [blk_cell HX.out]; rfl
      have tl := World.block_lt_of_cell? _ _ t1
      go_wp2_with fail
      refine (c30 _ _ _ _ _ _ _ t.key _ _ _ l _ (HT.out.below HB.out).key hkl (Kd.C_below HL.out HB.out) (by omega) (tab_below HTB.out HB.out) (HP.out.rows.keys hkl2)).mono ?_
      rintro e w2 ⟨b2, rfl, h2, hb2⟩
      have HB2 := Aside0.mk (bthen HB.out hb2)
      have HX2 := Aside0.mk (blk_below HX.out hb2)
      have HC6 := Aside0.mk (Kd.C_below HC5.out hb2)
      have H2 := Lib.hid h2
      clear HB HX HC5 hb2 h2 t0 t1 t2 t3 t4 tl
      have t0 : (w2).cell? ⟨w.heap.size, 0, none⟩ = some (.string t.nm) := by rw [blk_cell HX2.out]; rfl
      have t1 : (w2).cell? ⟨w.heap.size, 1, none⟩ = some (.slice A1 t.cols.length c1) := by rw [blk_cell HX2.out]; rfl
      have t2 : (w2).cell? ⟨w.heap.size, 2, none⟩ = some (.slice A2 t.key.length c2) := by rw [blk_cell HX2.out]; rfl
      have t3 : (w2).cell? ⟨w.heap.size, 3, none⟩ = some (.slice A3 t.fors.length c3) := by rw [blk_cell HX2.out]; rfl
      have t4 : (w2).cell? ⟨w.heap.size, 4, none⟩ = some (.slice A4 t.chks.length c4) := by rw [blk_cell HX2.out]; rfl
      have tl := World.block_lt_of_cell? _ _ t1
      cases b2 with
      | true =>
        go_wp2_with fail
        refine (c30 _ _ _ _ _ _ _ t.key _ _ _ pl _ (HT.out.below HB2.out).key hkl HC6.out (by omega) (tab_below HTB.out HB2.out) ((HP.out.rows.sub HSL.out).keys hkl2)).mono ?_
        rintro e w3 ⟨b3, rfl, h3, hb3⟩
        obtain rfl : b3 = true := h3.2 (holds_sub HSL.out (by have := H2.out; simpa using this))
        have HB3 := Aside0.mk (bthen HB2.out hb3)
        have HX3 := Aside0.mk (blk_below HX2.out hb3)
        clear HB2 HX2 HC6 hb3 h3 t0 t1 t2 t3 t4 tl
        have t0 : (w3).cell? ⟨w.heap.size, 0, none⟩ = some (.string t.nm) := by rw [blk_cell HX3.out]; rfl
        have t1 : (w3).cell? ⟨w.heap.size, 1, none⟩ = some (.slice A1 t.cols.length c1) := by rw [blk_cell HX3.out]; rfl
        have t2 : (w3).cell? ⟨w.heap.size, 2, none⟩ = some (.slice A2 t.key.length c2) := by rw [blk_cell HX3.out]; rfl
        have t3 : (w3).cell? ⟨w.heap.size, 3, none⟩ = some (.slice A3 t.fors.length c3) := by rw [blk_cell HX3.out]; rfl
        have t4 : (w3).cell? ⟨w.heap.size, 4, none⟩ = some (.slice A4 t.chks.length c4) := by rw [blk_cell HX3.out]; rfl
        have tl := World.block_lt_of_cell? _ _ t1
        go_wp2_with fail
        refine (c30 _ _ _ _ _ _ _ t.key _ _ _ [] _ (HT.out.below HB3.out).key hkl (Kd.C_nil _ _) (by simp) (tab_below HTB.out HB3.out) (fun x hx => by simp at hx)).mono ?_
        rintro e w4 ⟨b4, rfl, h4, hb4⟩
        obtain rfl : b4 = true := h4.2 (holds_nil _)
        have HB4 := Aside0.mk (bthen HB3.out hb4)
        clear HB3 HX3 hb4 h4 t0 t1 t2 t3 t4 tl
        go_wp2_with fail
        refine (c14 _ (tab_below HTB.out HB4.out)).mono ?_
        rintro e w5 ⟨rfl, hb5⟩
        have HB5 := Aside0.mk (bthen HB4.out hb5)
        clear hb5
        go_wp2
        go_ret
        exact ⟨rfl, HB5.out⟩
      | false =>
        go_wp2_with fail
        refine (c30 _ _ _ _ _ _ _ t.key _ _ _ [] _ (HT.out.below HB2.out).key hkl (Kd.C_nil _ _) (by simp) (tab_below HTB.out HB2.out) (fun x hx => by simp at hx)).mono ?_
        rintro e w4 ⟨b4, rfl, h4, hb4⟩
        obtain rfl : b4 = true := h4.2 (holds_nil _)
        have HB4 := Aside0.mk (bthen HB2.out hb4)
        clear HB2 HX2 hb4 h4 t0 t1 t2 t3 t4 tl
        go_wp2_with fail
        refine (c14 _ (tab_below HTB.out HB4.out)).mono ?_
        rintro e w5 ⟨rfl, hb5⟩
        have HB5 := Aside0.mk (bthen HB4.out hb5)
        clear hb5
        go_wp2
        go_ret
        exact ⟨rfl, HB5.out⟩
end Go.Proofs.YtiamihkfphmohaaGreatDoor.PA

namespace Go.Proofs.YtiamihkfphmohaaGreatDoor.PA
open Go.RowKit Go.Proofs.YtiamihkfphmohaaGreatDoorW.PrintWords Go.Proofs.YtiamihkfphmohaaGreatDoorW.PrintLast Go.Proofs.YtiamihkfphmohaaGreatDoorW.PrintMore
open Go.ChangeShapes Go.WideShapes Go.ChangeAt

/-! ### From the row's conditions to the walks' -/
theorem own : ownKnob Tryz.prog.godebug = none := by kernel_rfl
theorem laidOut : laidOutB Tryz.prog = true := by kernel_rfl
theorem laid3_tab {W : World} (h : laidMetH Tryz.prog Rows.uniquePartsRow.laid W) : TabOK W :=
  Lib.tabIs_of_head (g := 0) (t := 257) (e := 223) (n := 20) (rest := []) (by kernel_rfl) (by kernel_rfl) Tryz.underlying257 Tryz.underlying223 (by kernel_rfl) (by kernel_rfl) (laidMet.tail (laidMet.tail h))
theorem agg_of {v : Value} {l : List Value} (h : v.cells.toList = l) (hl : 2 ≤ l.length) : v = .agg l.toArray := by
  cases v <;> simp only [Value.cells] at h <;> first
    | (subst h; simp at hl; done)
    | (subst h; simp)
section
variable {H : Type} {enc : TypeId × Value → H} {W : World} {v : Value} {d : DataW H} {p : List MemPlace} {base : Nat} {sp : Nat → Bool} {hd : Bool}
theorem trod_lt' {t : TypeId} (h : DataW.Trod enc Tryz.prog W base sp hd t v d p) : ∀ x ∈ p, x.block < W.heap.size := by obtain ⟨m, hm⟩ := h; exact DataW.trod_lt m _ _ _ hm
set_option maxRecDepth 100000 in
theorem open_tbl (h : DataW.Trod enc Tryz.prog W base sp hd 27 v d p) : ∃ (t : Tbl) (A1 A2 A3 A4 : Option Addr) (c1 c2 c3 c4 : Nat), v = .agg #[.string t.nm, .slice A1 t.cols.length c1, .slice A2 t.key.length c2, .slice A3 t.fors.length c3, .slice A4 t.chks.length c4] ∧ TK W t A1 A2 A3 A4 c1 c2 c3 c4 ∧ TIn t := by
  obtain ⟨m, hm⟩ := h
  obtain ⟨t, A1, A2, A3, A4, c1, c2, c3, c4, e, hT, hI⟩ := rd_27 ⟨_, hm⟩
  exact ⟨t, A1, A2, A3, A4, c1, c2, c3, c4, agg_of e (by simp), hT, hI⟩
theorem co58' : Tryz.prog.cellsOf 58 = k58.sz := by kernel_rfl
set_option maxRecDepth 100000 in
theorem open_facts (hv : Value.okWide Tryz.prog W .any base 28 v) (h : DataW.Trod enc Tryz.prog W 0 sp hd 28 v d p) : ∃ (l : List S58) (A : Option Addr) (c : Nat), v = .slice A l.length c ∧ l.length ≤ c ∧ k58.C W A l.length l ∧ l.length ≤ maxLen ∧ ∀ x ∈ l, FIn x := by
  obtain ⟨m, hm⟩ := h
  obtain ⟨a, n, c, rfl⟩ := okWide_slice Tryz.underlying28 hv
  obtain ⟨A, l, c', e, hc, hC, hl, hF⟩ := rd_slice (d := k58) (ok := FIn) Tryz.underlying28 co58' (fun m' _ cs' h' => rd_58 h') ⟨_, hm⟩
  simp [Value.cells] at e
  obtain ⟨rfl, rfl, rfl⟩ := e
  exact ⟨l, a, c, rfl, hc, hC, hl, hF⟩
end
end Go.Proofs.YtiamihkfphmohaaGreatDoor.PA
