import Derived.Lib.Hide
import Derived.WalkLawsBesides
import Derived.WalkSpells
import Derived.IntWalk
import Derived.Shelf.Strings.BuilderK
import Derived.Shelf.Strconv.Itoa3
import Derived.Ground.NamesProg
import Derived.WalkSmall
import Derived.Lib.AppendIntMem
import Derived.Maps.Own
import Derived.Maps.OwnOps
import Derived.Maps.OwnSet
import Derived.Maps.Ext
import Derived.Maps.RangeWalk
import Derived.Sort.KeysCollected
import Derived.Deep.RegionHeld3
import Derived.Deep.AppendLies
import Derived.Lib.BufferKept
import Derived.Test.YtiamihkfphmohaaGreatDoorShelf
import Derived.Test.YtiamihkfphmohaaGreatDoorA2
set_option linter.unusedVariables false
set_option linter.unusedSimpArgs false

namespace Go.Proofs.YtiamihkfphmohaaGreatDoor.PA
open Go.RowKit Go.Proofs.YtiamihkfphmohaaGreatDoorW.PrintWords Go.Proofs.YtiamihkfphmohaaGreatDoorW.PrintLast Go.Proofs.YtiamihkfphmohaaGreatDoorW.PrintMore
open Go.Sort (SWO PermIn SortedIn grow alloc_eq_grow grow_grow)
open Go.Shelf

def B186 (x : S152) : Prop := 0 ≤ x.f0 ∧ x.f0 ≤ 1099511627776
def cf186 (x y : {x : S152 // B186 x}) : Int := x.1.f0 - y.1.f0
def en186 (x : S152) : List Value := [.int .i64 x.f0, .int .i64 x.f1]
def eb186 (y : {x : S152 // B186 x}) : List Value := en186 y.1
theorem flat186 : Flat k152 en186 where
  len _ := rfl
  one _ v hv := by simp [en186] at hv; rcases hv with rfl | rfl <;> rfl
  iff_ := ⟨fun h => k152_openM h, fun h => by subst h; exact k152_mkM _ _ _ _⟩
  pos := by decide
instance inh186 : Inhabited {x : S152 // B186 x} := ⟨⟨z152, by simp [B186, z152, z50]⟩⟩
set_option maxHeartbeats 1000000 in
theorem c187 (x y : {x : S152 // B186 x}) (w : World) :
    Calls Tryz.prog 128 #[.agg #[.int .i64 x.1.f0, .int .i64 x.1.f1], .agg #[.int .i64 y.1.f0, .int .i64 y.1.f1]] w fun e w' => e = .returned (.int .i64 (cf186 x y)) ∧ ∃ q os', w' = grow (w.drewN q) os' := by
  obtain ⟨x, hx⟩ := x
  obtain ⟨y, hy⟩ := y
  unfold B186 at hx hy
  go_enter Tryz.func128, Tryz.ntmps128
  go_wp2
  go_ret
  exact ⟨rfl, 0, _, by rw [alloc_eq_grow, alloc_eq_grow, grow_grow]; rfl⟩
theorem aggE186 : ∀ w, (isAgg 152).run Tryz.prog w = .ok true w := fun _ => by kernel_rfl
theorem sizeE186 : ∀ w, (Go.sizeOf 152).run Tryz.prog w = .ok 2 w := fun _ => by kernel_rfl
theorem swo186 : SWO (ltOf cf186) where
  irrefl x := by
    refine decide_eq_false ?_
    unfold cf186
    omega
  trans x y z h1 h2 := by
    have h1 := of_decide_eq_true h1
    have h2 := of_decide_eq_true h2
    refine decide_eq_true ?_
    unfold cf186 at *
    omega
  ntrans x y z h1 h2 := by
    have h1 := of_decide_eq_false h1
    have h2 := of_decide_eq_false h2
    refine decide_eq_false ?_
    unfold cf186 at *
    omega
theorem lays186 (blk off size : Nat) (w : World) : CmpLays Tryz.prog 128 #[] eb186 2 cf186 blk off size w := fun m os dk _ x y => c187 x y _
theorem ent187 : ∀ args w, (callFunc 128 args).run Tryz.prog w = .ok (.enter 128 args) w := enters_of Tryz.func128 (by kernel_rfl) rfl
theorem sf186 (g cap : Nat) (D : Array {x : S152 // B186 x}) (w : World) (hH : Go.Sort.HoldsK eb186 2 w g 0 D) (hlt : g < w.heap.size) (hsz : D.size < 4611686018427387904) :
    Calls Tryz.prog 127 #[.slice (some ⟨g, 0, none⟩) D.size cap, .func (.func 128) #[] #[]] w fun e w' =>
      e = .returned (.tuple #[]) ∧ ∃ d' n os, PermIn 0 D.size D d' ∧ SortedIn (ltOf cf186) 0 D.size d' ∧ w' = Go.Proofs.sortWorldK eb186 2 w g 0 n d' os :=
  AnyQ.slices_SortFunc Tryz.sortStep 2 aggE186 sizeE186 eb186 (fun y => flat186.len y.1) (fun y => flat186.one y.1) cf186 swo186 128 #[] g 0 cap D w ent187 (lays186 g 0 D.size w) hH hlt hsz
set_option maxHeartbeats 1000000 in
set_option maxRecDepth 100000 in
theorem c186 (v : Value) (xs : List S152) (w0 w : World) (base : Nat) (hx : ∀ x ∈ xs, B186 x) (HO : k152.R 152 w base (fun _ => True) v xs) (HB : Below base w0 w) (hbase : base ≤ w.heap.size) (hl : xs.length ≤ 100000000) :
    Calls Tryz.prog 127 #[v, .func (.func 128) #[] #[]] w (Sorted w0 w base k152 152 v xs (fun a b => a.f0 ≤ b.f0)) := by
  by_cases hne : 0 < xs.length
  · have hys : (xs.attachWith B186 hx).map Subtype.val = xs := by simp
    have hyl : (xs.attachWith B186 hx).length = xs.length := by simp
    generalize xs.attachWith B186 hx = ys at hys hyl
    obtain ⟨g, cap, rfl, hlt, hH, hback⟩ := R_sortable flat186 Subtype.val hys HO hne
    have eg : ∀ args w, (callFunc 128 args).run Tryz.prog w = .ok (.enter 128 args) w := enters_of Tryz.func128 (by kernel_rfl) rfl
    have hcon := sf186 g cap ys.toArray w hH hlt (by simp [hyl]; omega)
    have hsz : ys.toArray.size = xs.length := by simp [hyl]
    rw [hsz] at hcon
    refine hcon.mono ?_
    rintro e w' ⟨rfl, D, n, os, hp, hs, rfl⟩
    rw [← hsz] at hp hs
    have hDs : D.size = ys.length := by have := hp.1; simpa using this
    obtain ⟨hR, hg⟩ := hback n D os hDs
    refine ⟨rfl, D.toList.map Subtype.val, ?_, ?_, hR, HB.grown hg hbase (by
      intro k hk
      exact Kd.N_base (Kd.R_N HO) k hk), hg⟩
    · rw [← hys]
      exact (perm_of hp).map _
    · rw [List.pairwise_map]
      refine (sorted_of (by rw [hDs]; simpa using hs)).imp ?_
      intro a b hab
      have hab := of_decide_eq_false hab
      unfold cf186 at hab
      omega
  · obtain rfl : xs = [] := List.eq_nil_of_length_eq_zero (by omega)
    obtain ⟨A, c, rfl⟩ := Kd.R_slice HO
    refine (AnyF.slices_SortFunc_none Tryz.sortStep A c (.func (.func 128) #[] #[]) w).mono ?_
    rintro e w' ⟨rfl, rfl⟩
    exact ⟨rfl, [], List.Perm.refl _, List.Pairwise.nil, HO, HB, grown_of_below (Below.refl _ _) _⟩
/-- The changes of the count of periods. -/
def chg (l : List S50) : List S152 := l.flatMap fun p => if pv p then [⟨p.f0, 1⟩, ⟨p.f1, -1⟩] else []
theorem chg_step {l : List S50} {k : Nat} (h : k < l.length) : chg (l.take (k + 1)) = chg (l.take k) ++ (if pv (l[k]) then [⟨(l[k]).f0, 1⟩, ⟨(l[k]).f1, -1⟩] else []) := by
  rw [take_step h, chg, List.flatMap_append]
  simp [chg]
theorem chg_len (l : List S50) : (chg l).length ≤ 2 * l.length := by
  induction l with
  | nil => simp [chg]
  | cons p l ih =>
    have : chg (p :: l) = (if pv p then [⟨p.f0, 1⟩, ⟨p.f1, -1⟩] else []) ++ chg l := rfl
    rw [this, List.length_append, List.length_cons]
    split <;> simp <;> omega
theorem chg_ok (l : List S50) : ∀ x ∈ chg l, B186 x ∧ -1 ≤ x.f1 ∧ x.f1 ≤ 1 := by
  intro x hx
  unfold B186
  obtain ⟨p, _, hp⟩ := List.mem_flatMap.1 hx
  by_cases h : pv p = true
  · have hv := pv_iff.1 h
    rw [if_pos h] at hp
    simp at hp
    rcases hp with rfl | rfl <;> simp only <;> omega
  · rw [if_neg h] at hp
    simp at hp
def smS : List S152 → Int
  | [] => 0
  | x :: l => x.f1 + smS l
theorem smS_append (l m : List S152) : smS (l ++ m) = smS l + smS m := by
  induction l with
  | nil => simp [smS]
  | cons x l ih => simp only [List.cons_append, smS, ih]; omega
theorem smS_perm {l m : List S152} (h : l.Perm m) : smS l = smS m := by
  induction h with
  | nil => rfl
  | cons x _ ih => simp only [smS, ih]
  | swap x y l => simp only [smS]; omega
  | trans _ _ h1 h2 => exact h1.trans h2
theorem smS_bd {l : List S152} (h : ∀ x ∈ l, -1 ≤ x.f1 ∧ x.f1 ≤ 1) : -(l.length : Int) ≤ smS l ∧ smS l ≤ l.length := by
  induction l with
  | nil => simp [smS]
  | cons x l ih =>
    have h1 := h x List.mem_cons_self
    have h2 := ih fun y hy => h y (List.mem_cons_of_mem _ hy)
    simp only [smS, List.length_cons]
    omega
theorem smS_cnt (a : List S50) (t : Int) : smS ((chg a).filter (fun x => decide (x.f0 ≤ t))) = cnt a t := by
  induction a with
  | nil => rfl
  | cons p a ih =>
    have e : chg (p :: a) = (if pv p then [⟨p.f0, 1⟩, ⟨p.f1, -1⟩] else []) ++ chg a := rfl
    rw [e, List.filter_append, smS_append, ih]
    simp only [cnt]
    congr 1
    by_cases hv : pv p = true
    · have hp := pv_iff.1 hv
      rw [if_pos hv]
      simp only [List.filter_cons, List.filter_nil, decide_eq_true_eq]
      by_cases h0 : p.f0 ≤ t
      · by_cases h2 : p.f1 ≤ t
        · rw [if_pos h0, if_pos h2, if_neg (by rw [pc_iff]; omega)]
          rfl
        · rw [if_pos h0, if_neg h2, if_pos (by rw [pc_iff]; omega)]
          rfl
      · rw [if_neg h0, if_neg (by omega), if_neg (by rw [pc_iff]; omega)]
        rfl
    · rw [if_neg hv, if_neg (by simp [pc, hv])]
      rfl
theorem filter_takeS {ys : List S152} {i : Nat} {t : Int} (h1 : ∀ x ∈ ys.take i, x.f0 ≤ t) (h2 : ∀ x ∈ ys.drop i, t < x.f0) : ys.filter (fun x => decide (x.f0 ≤ t)) = ys.take i := by
  conv => lhs; rw [← List.take_append_drop i ys]
  rw [List.filter_append, List.filter_eq_self.2 (fun x hx => decide_eq_true (h1 x hx)), List.filter_eq_nil_iff.2 (fun x hx => by have := h2 x hx; simp; omega), List.append_nil]
theorem rd_takeS {l : List S152} {i : Nat} (h : i < l.length) : l.take (i + 1) = l.take i ++ [rd_T152 l i] := by
  rw [take_step h]
  simp [rd_T152, h]
theorem drop_laterS {ys : List S152} {j : Nat} {x : Int} (hs : ys.Pairwise (fun x y => x.f0 ≤ y.f0)) (h2 : ∀ y ∈ ys.drop j, x ≤ y.f0) (hj : j < ys.length) (hne : (rd_T152 ys j).f0 ≠ x) : x < (rd_T152 ys j).f0 ∧ ∀ y ∈ ys.drop j, (rd_T152 ys j).f0 ≤ y.f0 := by
  have e : ys.drop j = rd_T152 ys j :: ys.drop (j + 1) := by
    rw [List.drop_eq_getElem_cons hj]
    simp [rd_T152, hj]
  have h0 := h2 (rd_T152 ys j) (by rw [e]; exact List.mem_cons_self)
  have hs' := hs.sublist (List.drop_sublist j ys)
  rw [e] at hs'
  refine ⟨by omega, fun y hy => ?_⟩
  rw [e] at hy
  rcases List.mem_cons.1 hy with rfl | hy
  · exact Int.le_refl _
  · exact (List.pairwise_cons.1 hs').1 y hy
theorem cnt_run {a : List S50} {ys : List S152} {x nx : Int} {j : Nat} (hp : ys.Perm (chg a)) (h1 : ∀ y ∈ ys.take j, y.f0 ≤ x) (h2 : ∀ y ∈ ys.drop j, nx ≤ y.f0) : ∀ t, x ≤ t → t < nx → cnt a t = smS (ys.take j) := by
  intro t ht1 ht2
  have hf := filter_takeS (t := t) (fun y hy => Int.le_trans (h1 y hy) ht1) (fun y hy => by have := h2 y hy; omega)
  have hpf := hp.filter (fun x => decide (x.f0 ≤ t))
  rw [hf] at hpf
  rw [smS_perm hpf, smS_cnt]
/-- The next change. -/
def cur (ys : List S152) (i : Nat) : Int := if i < ys.length then (rd_T152 ys i).f0 else 1099511627776
theorem cur_drop {ys : List S152} {i : Nat} (hs : ys.Pairwise (fun x y => x.f0 ≤ y.f0)) : ∀ y ∈ ys.drop i, cur ys i ≤ y.f0 := by
  intro y hy
  by_cases h : i < ys.length
  · rw [cur, if_pos h]
    have e : ys.drop i = rd_T152 ys i :: ys.drop (i + 1) := by
      rw [List.drop_eq_getElem_cons h]
      simp [rd_T152, h]
    have hs' := hs.sublist (List.drop_sublist i ys)
    rw [e] at hs' hy
    rcases List.mem_cons.1 hy with rfl | hy
    · exact Int.le_refl _
    · exact (List.pairwise_cons.1 hs').1 y hy
  · rw [List.drop_eq_nil_of_le (by omega)] at hy
    simp at hy
def StepsRes (g : Int → Int) (n : Nat) (w : World) (e : Ending) (w' : World) : Prop :=
  ∃ v r, e = .returned v ∧ StepsOK r ∧ (∀ t, 0 ≤ t → t < 1099511627776 → sv r t = g t) ∧ r.length ≤ 2 * n + 1 ∧ Kd.R k152 152 w' w.heap.size (fun _ => True) v r ∧ Below w.heap.size w w'
def OfI (a : List S50) (ys : List S152) (i : Nat) (o : List S152) : Prop :=
  i ≤ ys.length ∧ 0 < cur ys i ∧ o.length ≤ i + 1 ∧ (∀ y ∈ ys.take i, y.f0 < cur ys i) ∧ StepsTo (cnt a) (cur ys i) o
theorem putS_len (l : List S152) (x n : Int) : (putS l x n).length ≤ l.length + 1 := by
  rcases snoc_cases l with rfl | ⟨m, q, rfl⟩
  · simp [putS_nil]
  · rw [putS_snoc]; split <;> simp
/-- Behind the first changes. -/
theorem OfI_start {a : List S50} {ys : List S152} {j : Nat} (hp : ys.Perm (chg a)) (hs : ys.Pairwise (fun x y => x.f0 ≤ y.f0)) (hj : j ≤ ys.length) (h1 : ∀ y ∈ ys.take j, y.f0 = 0) (h2 : ¬ (j < ys.length ∧ (rd_T152 ys j).f0 = 0)) : OfI a ys j (putS [] 0 (smS (ys.take j))) := by
  have h0 : 0 < cur ys j := by
    unfold cur
    split
    · rename_i h
      have h3 : (rd_T152 ys j) ∈ ys := by simp [rd_T152, h]
      have h4 := (chg_ok a _ (hp.mem_iff.1 h3)).1
      unfold B186 at h4
      have : (rd_T152 ys j).f0 ≠ 0 := fun h5 => h2 ⟨h, h5⟩
      omega
    · decide
  have hc := cnt_run (x := 0) (nx := cur ys j) hp (fun y hy => by rw [h1 y hy]; exact Int.le_refl _) (cur_drop hs)
  have e0 := hc 0 (Int.le_refl _) h0
  rw [← e0]
  refine ⟨hj, h0, by have := putS_len [] 0 (cnt a 0); simp at this; omega, fun y hy => by rw [h1 y hy]; exact h0, putS_first h0 fun t ht1 ht2 => ?_⟩
  rw [hc t ht1 ht2, e0]
theorem OfI_round {a : List S50} {ys : List S152} {i j : Nat} {o : List S152} (hp : ys.Perm (chg a)) (hs : ys.Pairwise (fun x y => x.f0 ≤ y.f0)) (h : OfI a ys i o) (hi : i < ys.length) (hij : i < j) (hj : j ≤ ys.length) (hF : (rd_T152 ys i).f0 < 1099511627776) (h1 : ∀ y ∈ ys.take j, y.f0 ≤ (rd_T152 ys i).f0) (h2 : ¬ (j < ys.length ∧ (rd_T152 ys j).f0 = (rd_T152 ys i).f0)) : OfI a ys j (putS o (rd_T152 ys i).f0 (smS (ys.take j))) := by
  obtain ⟨_, h0, hlen, _, hst⟩ := h
  have ec : cur ys i = (rd_T152 ys i).f0 := by rw [cur, if_pos hi]
  rw [ec] at h0 hst
  have hlt : (rd_T152 ys i).f0 < cur ys j := by
    by_cases hjl : j < ys.length
    · have hd : ∀ y ∈ ys.drop j, (rd_T152 ys i).f0 ≤ y.f0 := by
        intro y hy
        have e : ys.drop j = (ys.drop i).drop (j - i) := by rw [List.drop_drop, Nat.add_sub_cancel' (by omega)]
        rw [e] at hy
        have := cur_drop (i := i) hs y (List.mem_of_mem_drop hy)
        rw [ec] at this
        exact this
      have := (drop_laterS hs hd hjl (fun h5 => h2 ⟨hjl, h5⟩)).1
      rw [cur, if_pos hjl]
      exact this
    · rw [cur, if_neg hjl]
      exact hF
  have hc := cnt_run (nx := cur ys j) hp h1 (cur_drop hs)
  have e0 := hc _ (Int.le_refl _) hlt
  rw [← e0]
  refine ⟨hj, by omega, by have := putS_len o (rd_T152 ys i).f0 (cnt a (rd_T152 ys i).f0); omega, fun y hy => by have := h1 y hy; omega, putS_ok hst hlt hF fun t ht1 ht2 => ?_⟩
  rw [hc t ht1 ht2, e0]
theorem OfI_end {a : List S50} {ys : List S152} {i : Nat} {o : List S152} (h : OfI a ys i o) (hp : ys.Perm (chg a)) (he : ¬ (i < ys.length ∧ (rd_T152 ys i).f0 < 1099511627776)) : StepsOK o ∧ ∀ t, 0 ≤ t → t < 1099511627776 → sv o t = cnt a t := by
  have ec : cur ys i = 1099511627776 := by
    unfold cur
    split
    · rename_i h1
      have h3 : (rd_T152 ys i) ∈ ys := by simp [rd_T152, h1]
      have h4 := (chg_ok a _ (hp.mem_iff.1 h3)).1
      unfold B186 at h4
      have : ¬ (rd_T152 ys i).f0 < 1099511627776 := fun h5 => he ⟨h1, h5⟩
      omega
    · rfl
  obtain ⟨_, _, _, _, m, q, rfl, h1, h2, h3⟩ := h
  rw [ec] at h2 h3
  exact ⟨h1, h3⟩
end Go.Proofs.YtiamihkfphmohaaGreatDoor.PA

namespace Go.Proofs.YtiamihkfphmohaaGreatDoor.PA
open Go.RowKit Go.Proofs.YtiamihkfphmohaaGreatDoorW.PrintWords Go.Proofs.YtiamihkfphmohaaGreatDoorW.PrintLast Go.Proofs.YtiamihkfphmohaaGreatDoorW.PrintMore

set_option maxHeartbeats 2000000 in
set_option maxRecDepth 100000 in
theorem c134 (A : Option Addr) (n c : Nat) (l : List S115) (w : World) (hr : k115.C w A n l) (hl : l.length ≤ 400000) (h1 : ∀ x ∈ l, x.f1 = 1) :
    Calls Tryz.prog 87 #[.slice A n c] w (StepsRes (cnt (l.map S115.f0)) l.length w) := by
  obtain rfl := hr.1
  have HR := Aside0.mk hr
  have HN := Lib.hid h1
  clear hr h1
  go_enter Tryz.func87, Tryz.ntmps87
  go_wp2
  go_loopw [3, 12] (fun v i wr => ∃ k : Nat, i = .int .i64 k ∧ k ≤ l.length ∧ Aside0 (k152.R 152 wr w.heap.size (fun _ => True) v (chg ((l.map S115.f0).take k))) ∧ Aside0 (Below w.heap.size w wr)) (fun _ i _ => l.length - (intOf i).toNat)
  case atStart => exact ⟨0, rfl, Nat.zero_le _, ⟨Kd.R_nil _ _ _ _ _⟩, ⟨Below.refl _ _⟩⟩
  case round =>
    obtain ⟨k, rfl, hk', HO, HB⟩ := hrel
    by_cases h1 : k < l.length
    · have e0 : (l.map S115.f0)[k]'(by simpa using h1) = (rd_T115 l k).f0 := by simp [rd_T115, h1]
      have hst := Lib.hid (chg_step (l := l.map S115.f0) (k := k) (by simpa using h1))
      rw [e0] at hst
      have hN1 : (rd_T115 l k).f1 = 1 := HN.out _ (by simp [rd_T115, h1])
      have hln := chg_len ((l.map S115.f0).take k)
      have hln2 : ((l.map S115.f0).take k).length ≤ k := by simp; omega
      obtain ⟨xa, rfl, x0, x1, x2⟩ := at_T115 HR.out k (by omega) (by omega)
      rw [Int.toNat_natCast] at x0 x1 x2
      replace x0 := pw_cell_below HB.out x0
      replace x1 := pw_cell_below HB.out x1
      replace x2 := pw_cell_below HB.out x2
      rw [hN1] at x2
      clear e0 hN1
      have hk1 : (0 : Int) ≤ k := by omega
      have hk2 : (k : Int) < l.length := by omega
      go_wp2_with fail
      refine (c147 _ _ _).mono ?_
      rintro e w1 ⟨rfl, hb1⟩
      have z0 := pw_cell_below hb1 (a := ⟨wr.heap.size, 0, none⟩) (v := .int .i64 (rd_T115 l k).f0.f0) (by simp)
      have z1 := pw_cell_below hb1 (a := ⟨wr.heap.size, 1, none⟩) (v := .int .i64 (rd_T115 l k).f0.f1) (by simp)
      have z2 := pw_cell_below hb1 (a := ⟨wr.heap.size, 2, none⟩) (v := .int .i64 1) (by simp)
      have hs0 : wr.heap.size < w1.heap.size := by have := hb1.size; simp at this; omega
      have HO1 := Aside0.mk (Kd.R_below (Kd.R_alloc HO.out _) hb1)
      have HB1 := Aside0.mk (below_step (below_alloc HB.out _) hb1)
      clear HO HB hb1 x0 x1 x2
      generalize wr.heap.size = gb at *
      by_cases hv : pv ⟨(rd_T115 l k).f0.f0, (rd_T115 l k).f0.f1⟩ = true
      · go_wp2_with (at_builtin; refine Kd.R_append_rows k152 (Rr := fun x cs => cs = en186 x) (w0 := w) w.heap.size rfl (.tmp 19) (.tmp 33) 118 152 (.agg #[(.int .i64 0), (.int .i64 0)]) 16 rfl Tryz.underlying118 info152 rfl (by decide) (by omega) u3 (chg ((l.map S115.f0).take k)) [⟨(rd_T115 l k).f0.f0, 1⟩, ⟨(rd_T115 l k).f0.f1, -1⟩] (some ⟨w1.heap.size, 0, none⟩) 2 2 (fun _ => True) (fun _ => False) rfl rfl ?aO ?aR ?aK (fun _ hk => hk.elim) (fun _ _ => trivial) ?aB ?aS ?aL ?_; (case aO => exact (Kd.R_alloc HO1.out _)); (case aR => exact (RR_flat flat186 (hd_alloc_eq rfl) _ rfl _ rfl (by decide))); (case aK => exact (fun x cs h => flat186.iff_.2 h)); (case aB => exact (below_alloc HB1.out _)); (case aS => exact (below_size (below_alloc HB1.out _))); (case aL => exact (by first | omega | (simp; omega))); intro v1 w1 ho hb hg hat; skip)
        exact ⟨⟨k + 1, by go_num, h1, ⟨by rw [hst.out, if_pos hv]; exact ho⟩, ⟨hb⟩⟩, by simp [intOf]; omega⟩
      · go_wp2
        exact ⟨⟨k + 1, by go_num, h1, ⟨by rw [hst.out, if_neg hv, List.append_nil]; exact HO1.out⟩, HB1⟩, by simp [intOf]; omega⟩
    · have ht : (l.map S115.f0).take k = l.map S115.f0 := List.take_of_length_le (by simp; omega)
      rw [ht] at HO
      clear ht HR
      have hcl := chg_len (l.map S115.f0)
      rw [List.length_map] at hcl
      go_wp2_with fail
      refine (c186 _ _ w wr w.heap.size (fun x hx => (chg_ok _ x hx).1) HO.out HB.out HB.out.size (by omega)).mono ?_
      rintro e w1 ⟨rfl, ys, hp, hs, hR, hB, hg⟩
      clear HO HB hg
      have hbd := Lib.hid (fun (i : Nat) => smS_bd (l := ys.take i) (fun x hx => (chg_ok _ x (hp.mem_iff.1 (List.mem_of_mem_take hx))).2))
      have hyl : ys.length ≤ 2 * l.length := by have := hp.length_eq; omega
      obtain ⟨A3, c3, rfl⟩ := Kd.R_slice hR
      have HY := Aside0.mk (Kd.R_reads' hR).2.2
      have HB1 := Aside0.mk hB
      have HP := Lib.hid hp
      have HS := Lib.hid hs
      clear hp hs hR hB
      go_wp2
      go_loop [7, 8] (fun sv iv => ∃ j : Nat, iv = .int .i64 j ∧ j ≤ ys.length ∧ sv = .int .i64 (smS (ys.take j)) ∧ Aside0 (∀ y ∈ ys.take j, y.f0 = 0)) (fun _ iv => ys.length - (intOf iv).toNat)
      case atStart => exact ⟨0, rfl, Nat.zero_le _, rfl, ⟨by simp⟩⟩
      case round =>
        obtain ⟨j, rfl, hjl, rfl, HZ⟩ := hrel
        by_cases hj1 : j < ys.length
        · obtain ⟨ya, e, y0, y1⟩ := at_T152 HY.out j (by omega) (by omega)
          cases e
          rw [Int.toNat_natCast] at y0 y1
          have yb := World.block_lt_of_cell? _ _ y0
          have hj2 : (0 : Int) ≤ j := by omega
          have hj3 : (j : Int) < ys.length := by omega
          by_cases hjx : (rd_T152 ys j).f0 = 0
          · have e1 : smS (ys.take (j + 1)) = smS (ys.take j) + (rd_T152 ys j).f1 := by rw [rd_takeS hj1, smS_append]; simp [smS]
            have hb := hbd.out (j + 1)
            have htl : (ys.take (j + 1)).length ≤ 4000000 := by rw [List.length_take]; omega
            rw [e1] at hb
            have E1 := Lib.hid e1
            clear e1
            go_wp2
            refine ⟨⟨j + 1, by go_num, hj1, by rw [E1.out], ⟨?_⟩⟩, by simp [intOf]; omega⟩
            intro y hy
            rw [rd_takeS hj1, List.mem_append, List.mem_singleton] at hy
            rcases hy with hy | rfl
            · exact HZ.out y hy
            · exact hjx
          · clear y1
            have HI := Lib.hid (OfI_start HP.out HS.out hjl HZ.out (fun h => hjx h.2))
            go_wp2_with fail
            refine (c188 (.slice none 0 0) [] 0 (smS (ys.take j)) w1 w1 w1.heap.size (Kd.R_nil _ _ _ _ _) (Below.refl _ _) (Nat.le_refl _) (by simp)).mono ?_
            rintro e w2 ⟨v6, rfl, hR6, hB6, _, _⟩
            go_wp2

            go_loopw [6, 7, 8, 9] (fun v sv iv av wr => ∃ (i : Nat) (o : List S152), iv = .int .i64 i ∧ sv = .int .i64 (smS (ys.take i)) ∧ Aside0 (OfI (l.map S115.f0) ys i o) ∧ Aside0 (k152.R 152 wr w1.heap.size (fun _ => True) v o) ∧ Aside0 (Below w1.heap.size w1 wr)) (fun _ _ iv _ _ => ys.length - (intOf iv).toNat)
            case atStart => exact ⟨j, _, rfl, rfl, ⟨HI.out⟩, ⟨hR6⟩, ⟨hB6⟩⟩
            case round =>
              clear HI HZ hB6 hR6
              obtain ⟨i, o, rfl, rfl, HI, HO, HB⟩ := hrel
              have hi0 : i ≤ ys.length := HI.out.1
              by_cases hi1 : i < ys.length
              · obtain ⟨ya, e, y0, y1⟩ := at_T152 HY.out i (by omega) (by omega)
                cases e
                rw [Int.toNat_natCast] at y0 y1
                replace y0 := pw_cell_below HB.out y0
                replace y1 := pw_cell_below HB.out y1
                have yb := World.block_lt_of_cell? _ _ y0
                have hj2 : (0 : Int) ≤ i := by omega
                have hj3 : (i : Int) < ys.length := by omega
                by_cases hF : (rd_T152 ys i).f0 < 1099511627776
                · go_wp2
                  go_loop [7, 8] (fun sv iv => ∃ j : Nat, iv = .int .i64 j ∧ i ≤ j ∧ j ≤ ys.length ∧ sv = .int .i64 (smS (ys.take j)) ∧ Aside0 (∀ y ∈ ys.take j, y.f0 ≤ (rd_T152 ys i).f0)) (fun _ iv => ys.length - (intOf iv).toNat)
                  case atStart => exact ⟨i, rfl, Nat.le_refl _, by omega, rfl, ⟨fun y hy => by have h := HI.out.2.2.2.1 y hy; rw [cur, if_pos hi1] at h; omega⟩⟩
                  case round =>
                    obtain ⟨j, rfl, hij, hjl, rfl, HLE⟩ := hrel
                    by_cases hj1 : j < ys.length
                    · obtain ⟨ya, e, y0, y1⟩ := at_T152 HY.out j (by omega) (by omega)
                      cases e
                      rw [Int.toNat_natCast] at y0 y1
                      replace y0 := pw_cell_below HB.out y0
                      replace y1 := pw_cell_below HB.out y1
                      have yb := World.block_lt_of_cell? _ _ y0
                      have hj2 : (0 : Int) ≤ j := by omega
                      have hj3 : (j : Int) < ys.length := by omega
                      by_cases hjx : (rd_T152 ys j).f0 = (rd_T152 ys i).f0
                      · have e1 : smS (ys.take (j + 1)) = smS (ys.take j) + (rd_T152 ys j).f1 := by rw [rd_takeS hj1, smS_append]; simp [smS]
                        have hb := hbd.out (j + 1)
                        have htl : (ys.take (j + 1)).length ≤ 4000000 := by rw [List.length_take]; omega
                        rw [e1] at hb
                        have E1 := Lib.hid e1
                        clear e1
                        go_wp2
                        refine ⟨⟨j + 1, by go_num, by omega, hj1, by rw [E1.out], ⟨?_⟩⟩, by simp [intOf]; omega⟩
                        intro y hy
                        rw [rd_takeS hj1, List.mem_append, List.mem_singleton] at hy
                        rcases hy with hy | rfl
                        · exact HLE.out y hy
                        · exact Int.le_of_eq hjx
                      · have hij2 : i < j := by
                          rcases Nat.lt_or_ge i j with h | h
                          · exact h
                          · obtain rfl : i = j := by omega
                            exact absurd rfl hjx
                        have HI2 := Lib.hid (OfI_round HP.out HS.out HI.out hi1 hij2 hjl hF HLE.out (fun h => hjx h.2))
                        go_wp2_with fail
                        refine (c188 _ o (rd_T152 ys i).f0 (smS (ys.take j)) w1 wr w1.heap.size HO.out HB.out HB.out.size (by have := HI.out.2.2.1; omega)).mono ?_
                        rintro e w2 ⟨v6, rfl, hR6, hB6, _, _⟩
                        go_wp2
                        exact ⟨⟨j, _, rfl, rfl, ⟨HI2.out⟩, ⟨hR6⟩, ⟨hB6⟩⟩, by simp [intOf]; omega⟩
                    · have hj3 : ¬ (j : Int) < ys.length := by omega
                      have hij2 : i < j := by omega
                      have HI2 := Lib.hid (OfI_round HP.out HS.out HI.out hi1 hij2 hjl hF HLE.out (fun h => hj1 h.1))
                      go_wp2_with fail
                      refine (c188 _ o (rd_T152 ys i).f0 (smS (ys.take j)) w1 wr w1.heap.size HO.out HB.out HB.out.size (by have := HI.out.2.2.1; omega)).mono ?_
                      rintro e w2 ⟨v6, rfl, hR6, hB6, _, _⟩
                      go_wp2
                      exact ⟨⟨j, _, rfl, rfl, ⟨HI2.out⟩, ⟨hR6⟩, ⟨hB6⟩⟩, by simp [intOf]; omega⟩
                · have HE := Lib.hid (OfI_end HI.out HP.out (fun h => hF h.2))
                  have hHB := HB.out.size
                  go_wp2
                  go_ret
                  obtain ⟨e1, e2⟩ := HE.out
                  exact ⟨_, o, rfl, e1, e2, by have := HI.out.2.2.1; omega, Kd.R_lower HO.out HB1.out.size, bthen HB1.out HB.out⟩
              · have hi3 : ¬ (i : Int) < ys.length := by omega
                have HE := Lib.hid (OfI_end HI.out HP.out (fun h => hi1 h.1))
                have hHB := HB.out.size
                go_wp2
                go_ret
                obtain ⟨e1, e2⟩ := HE.out
                exact ⟨_, o, rfl, e1, e2, by have := HI.out.2.2.1; omega, Kd.R_lower HO.out HB1.out.size, bthen HB1.out HB.out⟩
        · have hj3 : ¬ (j : Int) < ys.length := by omega
          have HI := Lib.hid (OfI_start HP.out HS.out hjl HZ.out (fun h => hj1 h.1))
          go_wp2_with fail
          refine (c188 (.slice none 0 0) [] 0 (smS (ys.take j)) w1 w1 w1.heap.size (Kd.R_nil _ _ _ _ _) (Below.refl _ _) (Nat.le_refl _) (by simp)).mono ?_
          rintro e w2 ⟨v6, rfl, hR6, hB6, _, _⟩
          go_wp2

          go_loopw [6, 7, 8, 9] (fun v sv iv av wr => ∃ (i : Nat) (o : List S152), iv = .int .i64 i ∧ sv = .int .i64 (smS (ys.take i)) ∧ Aside0 (OfI (l.map S115.f0) ys i o) ∧ Aside0 (k152.R 152 wr w1.heap.size (fun _ => True) v o) ∧ Aside0 (Below w1.heap.size w1 wr)) (fun _ _ iv _ _ => ys.length - (intOf iv).toNat)
          case atStart => exact ⟨j, _, rfl, rfl, ⟨HI.out⟩, ⟨hR6⟩, ⟨hB6⟩⟩
          case round =>
            clear HI HZ hB6 hR6
            obtain ⟨i, o, rfl, rfl, HI, HO, HB⟩ := hrel
            have hi0 : i ≤ ys.length := HI.out.1
            by_cases hi1 : i < ys.length
            · obtain ⟨ya, e, y0, y1⟩ := at_T152 HY.out i (by omega) (by omega)
              cases e
              rw [Int.toNat_natCast] at y0 y1
              replace y0 := pw_cell_below HB.out y0
              replace y1 := pw_cell_below HB.out y1
              have yb := World.block_lt_of_cell? _ _ y0
              have hj2 : (0 : Int) ≤ i := by omega
              have hj3 : (i : Int) < ys.length := by omega
              by_cases hF : (rd_T152 ys i).f0 < 1099511627776
              · go_wp2
                go_loop [7, 8] (fun sv iv => ∃ j : Nat, iv = .int .i64 j ∧ i ≤ j ∧ j ≤ ys.length ∧ sv = .int .i64 (smS (ys.take j)) ∧ Aside0 (∀ y ∈ ys.take j, y.f0 ≤ (rd_T152 ys i).f0)) (fun _ iv => ys.length - (intOf iv).toNat)
                case atStart => exact ⟨i, rfl, Nat.le_refl _, by omega, rfl, ⟨fun y hy => by have h := HI.out.2.2.2.1 y hy; rw [cur, if_pos hi1] at h; omega⟩⟩
                case round =>
                  obtain ⟨j, rfl, hij, hjl, rfl, HLE⟩ := hrel
                  by_cases hj1 : j < ys.length
                  · obtain ⟨ya, e, y0, y1⟩ := at_T152 HY.out j (by omega) (by omega)
                    cases e
                    rw [Int.toNat_natCast] at y0 y1
                    replace y0 := pw_cell_below HB.out y0
                    replace y1 := pw_cell_below HB.out y1
                    have yb := World.block_lt_of_cell? _ _ y0
                    have hj2 : (0 : Int) ≤ j := by omega
                    have hj3 : (j : Int) < ys.length := by omega
                    by_cases hjx : (rd_T152 ys j).f0 = (rd_T152 ys i).f0
                    · have e1 : smS (ys.take (j + 1)) = smS (ys.take j) + (rd_T152 ys j).f1 := by rw [rd_takeS hj1, smS_append]; simp [smS]
                      have hb := hbd.out (j + 1)
                      have htl : (ys.take (j + 1)).length ≤ 4000000 := by rw [List.length_take]; omega
                      rw [e1] at hb
                      have E1 := Lib.hid e1
                      clear e1
                      go_wp2
                      refine ⟨⟨j + 1, by go_num, by omega, hj1, by rw [E1.out], ⟨?_⟩⟩, by simp [intOf]; omega⟩
                      intro y hy
                      rw [rd_takeS hj1, List.mem_append, List.mem_singleton] at hy
                      rcases hy with hy | rfl
                      · exact HLE.out y hy
                      · exact Int.le_of_eq hjx
                    · have hij2 : i < j := by
                        rcases Nat.lt_or_ge i j with h | h
                        · exact h
                        · obtain rfl : i = j := by omega
                          exact absurd rfl hjx
                      have HI2 := Lib.hid (OfI_round HP.out HS.out HI.out hi1 hij2 hjl hF HLE.out (fun h => hjx h.2))
                      go_wp2_with fail
                      refine (c188 _ o (rd_T152 ys i).f0 (smS (ys.take j)) w1 wr w1.heap.size HO.out HB.out HB.out.size (by have := HI.out.2.2.1; omega)).mono ?_
                      rintro e w2 ⟨v6, rfl, hR6, hB6, _, _⟩
                      go_wp2
                      exact ⟨⟨j, _, rfl, rfl, ⟨HI2.out⟩, ⟨hR6⟩, ⟨hB6⟩⟩, by simp [intOf]; omega⟩
                  · have hj3 : ¬ (j : Int) < ys.length := by omega
                    have hij2 : i < j := by omega
                    have HI2 := Lib.hid (OfI_round HP.out HS.out HI.out hi1 hij2 hjl hF HLE.out (fun h => hj1 h.1))
                    go_wp2_with fail
                    refine (c188 _ o (rd_T152 ys i).f0 (smS (ys.take j)) w1 wr w1.heap.size HO.out HB.out HB.out.size (by have := HI.out.2.2.1; omega)).mono ?_
                    rintro e w2 ⟨v6, rfl, hR6, hB6, _, _⟩
                    go_wp2
                    exact ⟨⟨j, _, rfl, rfl, ⟨HI2.out⟩, ⟨hR6⟩, ⟨hB6⟩⟩, by simp [intOf]; omega⟩
              · have HE := Lib.hid (OfI_end HI.out HP.out (fun h => hF h.2))
                have hHB := HB.out.size
                go_wp2
                go_ret
                obtain ⟨e1, e2⟩ := HE.out
                exact ⟨_, o, rfl, e1, e2, by have := HI.out.2.2.1; omega, Kd.R_lower HO.out HB1.out.size, bthen HB1.out HB.out⟩
            · have hi3 : ¬ (i : Int) < ys.length := by omega
              have HE := Lib.hid (OfI_end HI.out HP.out (fun h => hi1 h.1))
              have hHB := HB.out.size
              go_wp2
              go_ret
              obtain ⟨e1, e2⟩ := HE.out
              exact ⟨_, o, rfl, e1, e2, by have := HI.out.2.2.1; omega, Kd.R_lower HO.out HB1.out.size, bthen HB1.out HB.out⟩
end Go.Proofs.YtiamihkfphmohaaGreatDoor.PA

namespace Go.Proofs.YtiamihkfphmohaaGreatDoor.PA
open Go.RowKit Go.Proofs.YtiamihkfphmohaaGreatDoorW.PrintWords Go.Proofs.YtiamihkfphmohaaGreatDoorW.PrintLast Go.Proofs.YtiamihkfphmohaaGreatDoorW.PrintMore

/-- The value of a column; a null if there is no such column. -/
def atV (row : List S82) (i : Int) : S82 := if 0 ≤ i ∧ i < row.length then rd_T82 row i else z82
def pick (row : List S82) (l : List Int) : List S82 := l.map (atV row)
theorem pick_len (row : List S82) (l : List Int) : (pick row l).length = l.length := by simp [pick]
set_option maxHeartbeats 400000 in
theorem c253 (w : World) : Calls Tryz.prog 170 #[] w fun e w' => e = .returned (.agg #[.int .i64 z82.f0, .int .i64 z82.f1, .string z82.f2]) ∧ Below w.heap.size w w' := by
  go_enter Tryz.func170, Tryz.ntmps170
  go_wp2
  refine bodyPost_ret (results_cell_row rfl _ _ w.heap.size 82 #[.int .i64 0, .int .i64 0, .string ⟨#[]⟩] (0, 0) _ rfl (hd_alloc_eq rfl) Tryz.underlying82 rfl (by kernel_rfl)) rfl ?_
  exact ⟨rfl, below_alloc (Below.refl _ _) _⟩
set_option maxHeartbeats 1000000 in
theorem c225 (A : Option Addr) (n c : Nat) (row : List S82) (i : Int) (w : World) (hr : k82.C w A n row) :
    Calls Tryz.prog 134 #[.slice A n c, .int .i64 i] w fun e w' => e = .returned (.agg #[.int .i64 (atV row i).f0, .int .i64 (atV row i).f1, .string (atV row i).f2]) ∧ Below w.heap.size w w' := by
  obtain rfl := hr.1
  have hm := hr.2.1
  have HR := Aside0.mk hr
  clear hr
  go_enter Tryz.func134, Tryz.ntmps134
  by_cases h0 : i < 0
  · have hat : atV row i = z82 := if_neg (by omega)
    rw [hat]
    go_wp2_with fail
    refine (c253 _).mono ?_
    rintro e w1 ⟨rfl, hb1⟩
    obtain ⟨hc, hf⟩ := bcell hb1
    have hz0 : w.heap.size < w1.heap.size := by have := hb1.size; simp at this; omega
    go_wp2
    have hbk := blk_below (blk_new w _) hb1
    refine bodyPost_ret (results_cell_row rfl _ _ w.heap.size 82 #[.int .i64 0, .int .i64 0, .string ⟨#[]⟩] (0, 0) _ rfl (blk_put (blk_put (blk_put hbk 0 _ rfl) 1 _ rfl) 2 _ rfl) Tryz.underlying82 rfl (by kernel_rfl)) rfl ?_
    exact ⟨rfl, below_set (below_set (below_set (bel1 hb1) (Nat.le_refl _)) (Nat.le_refl _)) (Nat.le_refl _)⟩
  · have h1 : 0 ≤ i := by omega
    by_cases h2 : i < row.length
    · have hat : atV row i = rd_T82 row i := if_pos ⟨h1, h2⟩
      rw [hat]
      obtain ⟨xa, rfl, x0, x1, x2⟩ := at_T82 HR.out i h1 h2
      have xb := World.block_lt_of_cell? _ _ x0
      go_wp2
      refine bodyPost_ret (results_cell_row rfl _ _ w.heap.size 82 #[.int .i64 (rd_T82 row i).f0, .int .i64 (rd_T82 row i).f1, .string (rd_T82 row i).f2] (0, 0) _ rfl (hd_alloc_eq rfl) Tryz.underlying82 rfl (by kernel_rfl)) rfl ?_
      exact ⟨rfl, below_alloc (Below.refl _ _) _⟩
    · have hat : atV row i = z82 := if_neg (by omega)
      rw [hat]
      go_wp2_with fail
      refine (c253 _).mono ?_
      rintro e w1 ⟨rfl, hb1⟩
      obtain ⟨hc, hf⟩ := bcell hb1
      have hz0 : w.heap.size < w1.heap.size := by have := hb1.size; simp at this; omega
      go_wp2
      have hbk := blk_below (blk_new w _) hb1
      refine bodyPost_ret (results_cell_row rfl _ _ w.heap.size 82 #[.int .i64 0, .int .i64 0, .string ⟨#[]⟩] (0, 0) _ rfl (blk_put (blk_put (blk_put hbk 0 _ rfl) 1 _ rfl) 2 _ rfl) Tryz.underlying82 rfl (by kernel_rfl)) rfl ?_
      exact ⟨rfl, below_set (below_set (below_set (bel1 hb1) (Nat.le_refl _)) (Nat.le_refl _)) (Nat.le_refl _)⟩

theorem R_made {α : Type} {d : Kd α} {e size : Nat} {w : World} {base : Nat} {v : Value} (hs : d.sz = size) (h : w.ownsRow base e size v 0 []) : d.R e w base (fun _ => True) v [] := by
  subst hs
  exact ⟨fun _ _ => trivial, [], h, ⟨by simp, fun j p hj => by simp at hj⟩⟩
def RowRes (r : List S82) (w : World) (e : Ending) (w' : World) : Prop := ∃ v, e = .returned v ∧ Kd.R k82 82 w' w.heap.size (fun _ => True) v r ∧ Below w.heap.size w w'
set_option maxHeartbeats 2000000 in
set_option maxRecDepth 100000 in
theorem c177 (A : Option Addr) (n c : Nat) (row : List S82) (A2 : Option Addr) (n2 c2 : Nat) (l : List Int) (w : World) (hr : k82.C w A n row) (hr2 : (Kd.int .i64).C w A2 n2 l) (hl : l.length ≤ 1000000) :
    Calls Tryz.prog 95 #[.slice A n c, .slice A2 n2 c2] w (RowRes (pick row l) w) := by
  obtain rfl := hr.1
  obtain rfl := hr2.1
  have HR := Aside0.mk hr
  have HR2 := Aside0.mk hr2
  clear hr hr2
  obtain ⟨i126, hi, hz0, hz1, hz2⟩ := info_parts info82
  go_enter Tryz.func95, Tryz.ntmps95
  go_wp2_with (at_make; go_must (refine wpList_make_own w rfl _ _ 34 rfl w.heap.size 82 i126 (.agg #[(.int .i64 0), (.int .i64 0), (.string ⟨#[]⟩)]) 3 Tryz.underlying34 hi hz0 hz1 .i64 .i64 _ l.length rfl rfl rfl ?b2 ?b3 ?b4 ?_; (case b2 => (rw [hz2]; omega)); (case b3 => (simp [maxLen]; omega)); (case b4 => exact Nat.le_refl _); intro w0 ho hg))
  clear hi hz0 hz1 hz2
  have HO1 := Aside0.mk (R_made (d := k82) rfl ho)
  have HB1 := Aside0.mk (pw_below_grown (Below.refl w.heap.size w) none (Nat.le_refl _) hg (by intro k hk; cases hk))
  clear ho hg
  have hs1 := HB1.out.size
  go_wp2
  go_loopw [5, 7, 13] (fun v x i wr => ∃ k : Nat, i = .int .i64 k ∧ k ≤ l.length ∧ Aside0 (k82.R 82 wr w.heap.size (fun _ => True) v (pick row (l.take k))) ∧ Aside0 (Below w.heap.size w wr)) (fun _ _ i _ => l.length - (intOf i).toNat)
  case atStart => exact ⟨0, rfl, Nat.zero_le _, HO1, HB1⟩
  case round =>
    clear HO1 HB1 hs1
    obtain ⟨k, rfl, hk', HO, HB⟩ := hrel
    have hHB := HB.out.size
    by_cases h1 : k < l.length
    · have hst : pick row (l.take (k + 1)) = pick row (l.take k) ++ [atV row (rd l k)] := by
        rw [take_step h1, pick, List.map_append]
        simp [pick, rd, h1]
      have hst := Lib.hid hst
      obtain ⟨xa, rfl, x0⟩ := Kd.at_int HR2.out k (by omega) (by omega)
      rw [Int.toNat_natCast] at x0
      replace x0 := pw_cell_below HB.out x0
      have hk1 : (0 : Int) ≤ k := by omega
      have hk2 : (k : Int) < l.length := by omega
      go_wp2_with fail
      refine (c225 _ _ _ row _ _ (Kd.C_below HR.out HB.out)).mono ?_
      rintro e w1 ⟨rfl, hb1⟩
      go_wp2_with (at_builtin; refine Kd.R_append k82 (w0 := w) w.heap.size rfl (.tmp 17) (.tmp 21) 34 82 (.agg #[(.int .i64 0), (.int .i64 0), (.string ⟨#[]⟩)]) 32 rfl Tryz.underlying34 info82 rfl (by decide) (by omega) u5 (pick row (l.take k)) (atV row (rd l k)) [.int .i64 (atV row (rd l k)).f0, .int .i64 (atV row (rd l k)).f1, .string (atV row (rd l k)).f2] (fun _ => True) (fun _ => False) rfl rfl (k82_mkM _ _ _ (atV row (rd l k))) (fun _ hk => hk.elim) (fun _ _ => trivial) ?aO ?aB ?aS ?aL ?_; (case aO => exact (Kd.R_below HO.out hb1)); (case aB => exact (below_step HB.out hb1)); (case aS => exact (below_size (below_step HB.out hb1))); (case aL => exact (by rw [pick_len, List.length_take]; omega)); intro v1 w1 ho hb hg hat; skip)
      exact ⟨⟨k + 1, by go_num, h1, ⟨by rw [hst.out]; exact ho⟩, ⟨hb⟩⟩, by simp [intOf]; omega⟩
    · go_wp2
      go_ret
      exact ⟨_, rfl, by rw [List.take_of_length_le (by omega)] at HO; exact HO.out, HB.out⟩

set_option maxHeartbeats 1000000 in
theorem c112 (nm : ByteArray) (vc vf vk : Value) (A2 : Option Addr) (n2 c2 : Nat) (l : List Int) (A : Option Addr) (n c : Nat) (row : List S82) (w : World) (hr : k82.C w A n row) (hr2 : (Kd.int .i64).C w A2 n2 l) (hl : l.length ≤ 1000000) :
    Calls Tryz.prog 54 #[.agg #[.string nm, vc, .slice A2 n2 c2, vf, vk], .slice A n c] w (RowRes (pick row l) w) := by
  obtain rfl := hr.1
  obtain rfl := hr2.1
  have HR := Aside0.mk hr
  have HR2 := Aside0.mk hr2
  clear hr hr2
  go_enter Tryz.func54, Tryz.ntmps54
  go_wp2_with fail
  refine (c177 _ _ _ row _ _ _ l _ (Kd.C_below HR.out (below_alloc (Below.refl _ _) _)) (Kd.C_below HR2.out (below_alloc (Below.refl _ _) _)) hl).mono ?_
  rintro e w1 ⟨v, rfl, hR, hB⟩
  go_wp2
  go_ret
  exact ⟨v, rfl, Kd.R_lower hR (by simp), bel1 hB⟩
end Go.Proofs.YtiamihkfphmohaaGreatDoor.PA

namespace Go.Proofs.YtiamihkfphmohaaGreatDoor.PA
open Go.RowKit Go.Proofs.YtiamihkfphmohaaGreatDoorW.PrintWords Go.Proofs.YtiamihkfphmohaaGreatDoorW.PrintLast Go.Proofs.YtiamihkfphmohaaGreatDoorW.PrintMore

open Go.Lib (IsBuilderF BuilderAtF OthersKept strCells byteCells)
/-! ### strings.Builder -/
theorem sizeB : (Tryz.prog.info? 126).map (·.size) = some 2 := by kernel_rfl
theorem info5 : (Tryz.prog.info? 5).map (fun i => (i.zero, i.size, i.bytes)) = some (some (.int .u8 0), 1, 1) := by kernel_rfl
/-- A builder of this call's own that holds bs. -/
abbrev Bld (b : Nat) (bs : List Value) (W : World) : Prop := IsBuilderF 126 5 b b bs W
abbrev BldU (b : Nat) (bs : List Value) (W : World) : Prop := BuilderAtF 126 5 b b (.pointer (some ⟨b, 0, none⟩)) bs W
set_option maxHeartbeats 1000000 in
set_option maxRecDepth 100000 in
theorem c223 (b : Nat) (bs : List Value) (w : World) (h : Bld b bs w) :
    Calls Tryz.prog 132 #[.pointer (some ⟨b, 0, none⟩)] w fun e w' => e = .returned (.tuple #[]) ∧ BldU b bs w' ∧ Below b w w' ∧ OthersKept 5 (some b) w w' := by
  obtain ⟨j, hj, hjs⟩ := Option.map_eq_some_iff.1 sizeB
  rcases h with h | h
  · have h0 := h.cell0
    have hsh := h.shape
    have hfz := h.frozen0
    have H := Lib.hid h
    clear h
    go_enter Tryz.func132, Tryz.ntmps132
    go_wp2
    rw [Lib.run_to_unsafe w ⟨b, 0, none⟩ Tryz.underlying123 Tryz.underlying202 hj (by rw [hjs]; decide) hsh (Nat.zero_lt_succ 1)]
    simp only [Result.andThen]
    rw [Oper.upon_value]
    go_wp2
    rw [run_callFunc_extern Tryz.func168 (by kernel_rfl) (by kernel_rfl) (by kernel_rfl) (e := Extern.AbiNoEscape.same) (by kernel_rfl)]
    rw [Lib.run_noEscape]
    simp only [Result.andThen]
    rw [Oper.upon_value]
    go_wp2
    rw [Lib.run_from_unsafe w ⟨b, 0, none⟩ Tryz.underlying202 Tryz.underlying123 hj hsh (by kernel_rfl)]
    simp only [Result.andThen]
    rw [Oper.upon_value]
    go_wp2
    go_end0
    exact ⟨rfl, H.out.used _, (Below.refl b w).setCell (p := ⟨b, 0, none⟩) H.out.1 _, (OthersKept.refl _ _ w).setCell ⟨b, 0, none⟩ rfl _⟩
  · have h0 := h.cell0
    have H := Lib.hid h
    clear h
    go_enter Tryz.func132, Tryz.ntmps132
    go_wp2
    rw [Lib.run_neq_ptr_same w _ Tryz.underlying123 hj]
    go_wp2
    go_end0
    exact ⟨rfl, H.out, Below.refl b _, OthersKept.refl _ _ _⟩

set_option maxHeartbeats 2000000 in
set_option maxRecDepth 100000 in
theorem c175 (b : Nat) (bs : List Value) (c : Int) (w : World) (h : Bld b bs w) (hlen : bs.length + 1 ≤ 140737488355328) (hBw : b ≤ w.heap.size) :
    Calls Tryz.prog 93 #[.pointer (some ⟨b, 0, none⟩), .int .u8 c] w fun e w' => e = .returned (.nilIface) ∧ BldU b (bs ++ [.int .u8 c]) w' ∧ Below b w w' ∧ OthersKept 5 (some b) w w' := by
  obtain ⟨i0, hi, hz0, hz1, hz2⟩ := info_parts info5
  go_enter Tryz.func93, Tryz.ntmps93
  go_wp2_with fail
  refine (c223 b bs _ h).mono ?_
  rintro e w1 ⟨rfl, h1, hb1, hk1⟩
  obtain ⟨hB, v, hbk, hown, hne⟩ := h1
  have c0 : w1.cell? ⟨b, 0, none⟩ = some (.pointer (some ⟨b, 0, none⟩)) := by rw [Lib.cell_of_heap hbk]; rfl
  have c1 : w1.cell? ⟨b, 1, none⟩ = some v := by rw [Lib.cell_of_heap hbk]; rfl
  have hs1 := hb1.size
  go_wp2_with (at_builtin; refine wpList_append_ownF _ rfl _ _ 124 rfl b 5 i0 (.int .u8 0) 1 1 Tryz.underlying124 hi hz0 hz1 hz2 rfl (by decide) _ _ _ rfl (hown.alloc _) ⟨w1.heap.size, 0, none⟩ 1 1 [.int .u8 c] rfl rfl ?c1 ?c2 ?c3 ?c4 ?c5 ?_)
  case c1 =>
    intro j u hj
    match j, hj with
    | 0, hj => simp at hj; subst hj; simp [Addr.add]
  case c2 => intro u hu; simp at hu; subst hu; rfl
  case c3 => unfold maxLen; omega
  case c4 => omega
  case c5 => (try simp); omega
  intro v' w2 hown' hgrow _
  have hlt : b < w1.heap.size := blk_lt hbk
  have hb2 : w2.heap[b]? = some (.cells #[.pointer (some ⟨b, 0, none⟩), v] 126 (0, 0)) := by
    rw [hgrow.block b (by simp; omega) (fun e => hne e.symm), Lib.alloc_old w1 _ b hlt]
    exact hbk
  have d0 : w2.cell? ⟨b, 0, none⟩ = some (.pointer (some ⟨b, 0, none⟩)) := by rw [Lib.cell_of_heap hb2]; rfl
  have d1 : w2.cell? ⟨b, 1, none⟩ = some v := by rw [Lib.cell_of_heap hb2]; rfl
  have f1 : w2.frozen? ⟨b, 1, none⟩ = false := Lib.frozen_of_heap hb2 1
  obtain ⟨ao, n', cap, rfl⟩ : ∃ ao n' cap, v' = .slice ao n' cap := by
    rcases hown'.2 with ⟨hv, _⟩ | ⟨g, cap, cur, fz, hv, _⟩
    · exact ⟨_, _, _, hv⟩
    · exact ⟨_, _, _, hv⟩
  go_wp2
  go_ret
  refine ⟨rfl, ?_, ?_, ((hk1.alloc _).grown hgrow (Lib.ownsRowF_kind (hown.alloc _))).setCell ⟨b, 1, none⟩ rfl _⟩
  · exact BuilderAtF.put (T := 126) (e := 5) hB hb2 (bs' := bs ++ [.int .u8 c]) (by simpa using hown') (by decide)
  · exact ((hb1.alloc (by omega) _).grown hgrow (by simp; omega) (fun k hk => (hown.lt k hk).1)).setCell (p := ⟨b, 1, none⟩) hB _

set_option maxHeartbeats 2000000 in
set_option maxRecDepth 100000 in
theorem c173 (b : Nat) (bs : List Value) (s : ByteArray) (w : World) (h : Bld b bs w) (hlen : bs.length + s.size ≤ 140737488355328) (hBw : b ≤ w.heap.size) :
    Calls Tryz.prog 91 #[.pointer (some ⟨b, 0, none⟩), .string s] w fun e w' => e = .returned (.tuple #[.int .i64 s.size, .nilIface]) ∧ BldU b (bs ++ strCells s) w' ∧ Below b w w' ∧ OthersKept 5 (some b) w w' := by
  obtain ⟨i0, hi, hz0, hz1, hz2⟩ := info_parts info5
  go_enter Tryz.func91, Tryz.ntmps91
  go_wp2_with fail
  refine (c223 b bs _ h).mono ?_
  rintro e w1 ⟨rfl, h1, hb1, hk1⟩
  obtain ⟨hB, v, hbk, hown, hne⟩ := h1
  have c0 : w1.cell? ⟨b, 0, none⟩ = some (.pointer (some ⟨b, 0, none⟩)) := by rw [Lib.cell_of_heap hbk]; rfl
  have c1 : w1.cell? ⟨b, 1, none⟩ = some v := by rw [Lib.cell_of_heap hbk]; rfl
  have hs1 := hb1.size
  go_wp2_with (at_builtin; refine Lib.wpList_append_own_stringF _ rfl _ _ 124 9 rfl b 5 i0 Tryz.underlying124 Tryz.underlying9 hi hz0 hz1 hz2 _ _ _ rfl hown s rfl ?c3 ?c4 ?c5 ?_)
  case c3 => unfold maxLen; omega
  case c4 => omega
  case c5 => (try simp); omega
  intro v' w2 hown' hgrow _
  have hlt : b < w1.heap.size := blk_lt hbk
  have hb2 : w2.heap[b]? = some (.cells #[.pointer (some ⟨b, 0, none⟩), v] 126 (0, 0)) := by
    rw [hgrow.block b hlt (fun e => hne e.symm)]
    exact hbk
  have d0 : w2.cell? ⟨b, 0, none⟩ = some (.pointer (some ⟨b, 0, none⟩)) := by rw [Lib.cell_of_heap hb2]; rfl
  have d1 : w2.cell? ⟨b, 1, none⟩ = some v := by rw [Lib.cell_of_heap hb2]; rfl
  have f1 : w2.frozen? ⟨b, 1, none⟩ = false := Lib.frozen_of_heap hb2 1
  obtain ⟨ao, n', cap, rfl⟩ : ∃ ao n' cap, v' = .slice ao n' cap := by
    rcases hown'.2 with ⟨hv, _⟩ | ⟨g, cap, cur, fz, hv, _⟩
    · exact ⟨_, _, _, hv⟩
    · exact ⟨_, _, _, hv⟩
  go_wp2
  go_ret2
  refine ⟨rfl, ?_, ?_, (hk1.grown hgrow (Lib.ownsRowF_kind hown)).setCell ⟨b, 1, none⟩ rfl _⟩
  · exact BuilderAtF.put (T := 126) (e := 5) hB hb2 (bs' := bs ++ strCells s) (by simpa [Lib.strCells_length] using hown') (by decide)
  · exact (hb1.grown hgrow (by omega) (fun k hk => (hown.lt k hk).1)).setCell (p := ⟨b, 1, none⟩) hB _

theorem unsafe_none (W : World) (q : Option Addr) : (Builtin.unsafeString_ #[164, 3] 9 #[.pointer q, .int .i64 0]).run Tryz.prog W = .ok (.string .empty) W := by
  cases q <;> rfl
set_option maxHeartbeats 2000000 in
set_option maxRecDepth 100000 in
/-- What the builder holds, as a string. -/
theorem c176 (b : Nat) (l : List UInt8) (w : World) (h : Bld b (byteCells l) w) (hBw : b ≤ w.heap.size) :
    Calls Tryz.prog 94 #[.pointer (some ⟨b, 0, none⟩)] w fun e w' => e = .returned (.string ⟨l.toArray⟩) ∧ Below b w w' := by
  have mixed : Tryz.prog.follows .mixedOrders = true := by kernel_rfl
  obtain ⟨p, hAt⟩ : ∃ p, BuilderAtF 126 5 b b p (byteCells l) w := by
    rcases h with h | h
    · exact ⟨_, h⟩
    · exact ⟨_, h⟩
  clear h
  obtain ⟨hB, v, hbk, hown, hne⟩ := hAt
  rw [Lib.byteCells_length] at hown
  rcases hown.2 with ⟨rfl, hz⟩ | ⟨g, cap, cur, fz, rfl, hbg, hg, hfz, hnc, hcm, hcs, htake⟩
  · obtain rfl : l = [] := List.eq_nil_of_length_eq_zero hz
    have hUS := unsafe_none
    have c1 : w.drew.cell? ⟨b, 1, none⟩ = some (.slice none 0 0) := by
      have : w.drew.heap[b]? = some (.cells #[p, .slice none 0 0] 126 (0, 0)) := hbk
      rw [Lib.cell_of_heap this]; rfl
    have hSD : (Builtin.unsafeSliceData_ #[124] 164 #[.slice none 0 0]).run Tryz.prog w.drew = .ok (.pointer none) w.drew := rfl
    go_enter Tryz.func94, Tryz.ntmps94
    go_wp2
    go_region_o
    all_goals (go_wp2; go_ret; exact ⟨rfl, Below.drew (Below.refl b w)⟩)
  · have c1 : w.drew.cell? ⟨b, 1, none⟩ = some (.slice (some ⟨g, 0, none⟩) l.length cap) := by
      have : w.drew.heap[b]? = some (.cells #[p, .slice (some ⟨g, 0, none⟩) l.length cap] 126 (0, 0)) := hbk
      rw [Lib.cell_of_heap this]; rfl
    by_cases h0 : l = []
    · subst h0
      have hUS := unsafe_none
      by_cases hc0 : cap = 0
      · subst hc0
        have hlt : b < w.heap.size := blk_lt hbk
        have hSD : (Builtin.unsafeSliceData_ #[124] 164 #[.slice (some ⟨g, 0, none⟩) 0 0]).run Tryz.prog w.drew = .ok (.pointer (some ⟨w.drew.heap.size, 0, none⟩)) (w.drew.alloc (.view ⟨g, 0, none⟩ 5)) :=
          Lib.run_unsafeSliceData_zero w.drew _ _ 5 Tryz.underlying164 ⟨g, 0, none⟩ 0 (5, cur.size) (by have hg' : w.drew.heap[g]? = some (.cells cur 5 fz) := hg; simp [World.shape?, hg'])
        have c2 : (w.drew.alloc (.view ⟨g, 0, none⟩ 5)).cell? ⟨b, 1, none⟩ = some (.slice (some ⟨g, 0, none⟩) 0 0) := by
          have : (w.drew.alloc (.view ⟨g, 0, none⟩ 5)).heap[b]? = _ := (Lib.alloc_old w.drew _ b hlt).trans hbk
          rw [Lib.cell_of_heap this]; rfl
        have c3 : (w.alloc (.view ⟨g, 0, none⟩ 5)).drew.cell? ⟨b, 1, none⟩ = some (.slice (some ⟨g, 0, none⟩) 0 0) := c2
        have c0 : w.cell? ⟨b, 1, none⟩ = some (.slice (some ⟨g, 0, none⟩) 0 0) := c1
        go_enter Tryz.func94, Tryz.ntmps94
        go_wp2
        go_region_o
        all_goals (go_wp2; go_ret; exact ⟨rfl, (Below.drew (Below.refl b w)).alloc hBw _⟩)
      · have hSD : (Builtin.unsafeSliceData_ #[124] 164 #[.slice (some ⟨g, 0, none⟩) 0 cap]).run Tryz.prog w.drew = .ok (.pointer (some ⟨g, 0, none⟩)) w.drew :=
          Lib.run_unsafeSliceData_row _ _ _ _ _ _ hc0
        clear hc0
        go_enter Tryz.func94, Tryz.ntmps94
        go_wp2
        go_region_o
        all_goals (go_wp2; go_ret; exact ⟨rfl, Below.drew (Below.refl b w)⟩)
    · have hl0 : l.length ≠ 0 := by simpa using h0
      have hSD : (Builtin.unsafeSliceData_ #[124] 164 #[.slice (some ⟨g, 0, none⟩) l.length cap]).run Tryz.prog w.drew = .ok (.pointer (some ⟨g, 0, none⟩)) w.drew :=
        Lib.run_unsafeSliceData_row _ _ _ _ _ _ (by omega)
      have hUS : (Builtin.unsafeString_ #[164, 3] 9 #[.pointer (some ⟨g, 0, none⟩), .int .i64 l.length]).run Tryz.prog w.drew = .ok (.string ⟨l.toArray⟩) (w.drew.freeze ⟨g, 0, none⟩ l.length) := by
        refine Lib.run_unsafeString_row w.drew 164 3 9 5 Tryz.underlying164 (by kernel_rfl) g cur.size (by have hg' : w.drew.heap[g]? = some (.cells cur 5 fz) := hg; simp [World.shape?, hg']) l h0 (by omega) (by unfold maxLen at hcm; omega) ?_
        intro j x hx
        have := hown.cells (g := g) rfl j (.int .u8 x.toNat) (by simp [byteCells, hx])
        exact this
      go_enter Tryz.func94, Tryz.ntmps94
      go_wp2
      go_region_o
      all_goals (go_wp2; go_ret; exact ⟨rfl, Lib.below_freeze (Below.drew (Below.refl b w)) (p := ⟨g, 0, none⟩) hbg _⟩)
end Go.Proofs.YtiamihkfphmohaaGreatDoor.PA

namespace Go.Proofs.YtiamihkfphmohaaGreatDoor.PA
open Go.RowKit Go.Proofs.YtiamihkfphmohaaGreatDoorW.PrintWords Go.Proofs.YtiamihkfphmohaaGreatDoorW.PrintLast Go.Proofs.YtiamihkfphmohaaGreatDoorW.PrintMore

open Go.Lib (IsBuilderF BuilderAtF OthersKept strCells byteCells)
open Go.Sort (grow)
/-- The table of strconv's stands. -/
def TabOK (w : World) : Prop := Lib.TabIs Tryz.prog w "internal/strconv.uint64pow10" .u64 Lib.pow10Tab
theorem globTab0 : (Tryz.prog.globalNamed "internal/strconv.uint64pow10").isSome = true := by kernel_rfl
theorem globTab : ∃ g, Tryz.prog.globalNamed "internal/strconv.uint64pow10" = some g := Option.isSome_iff_exists.1 globTab0
theorem tab_below {w w' : World} (h : TabOK w) (hb : Below w.heap.size w w') : TabOK w' := by
  obtain ⟨g, hg⟩ := globTab
  refine var?_below (B := w.heap.size) (g := g) hb hg ?_ h
  have h1 : w.var? Tryz.prog "internal/strconv.uint64pow10" = _ := h
  unfold World.var? at h1
  simp only [hg, Option.bind_some] at h1
  rcases Nat.lt_or_ge g w.heap.size with h2 | h2
  · exact h2
  · simp [Array.getElem?_eq_none h2] at h1
def InI (n : Int) : Prop := -9223372036854775808 ≤ n ∧ n ≤ 9223372036854775807
def InR (v : S82) : Prop := InI v.f0 ∧ InI v.f1
theorem c174 (n : Int) (hn : InI n) (w : World) (hT : TabOK w) : Calls Tryz.prog 92 #[.int .i64 n] w fun e w' => e = .returned (.string ⟨(Lib.itoa n).toArray⟩) ∧ Below w.heap.size w w' :=
  (Any.strconv_Itoa Tryz.laysM171 n hn.1 hn.2 w hT).mono fun _ _ h => ⟨h.1, by obtain ⟨k, os, rfl⟩ := h.2; exact Lib.below_grow _ w (Nat.le_refl _) k os⟩
theorem bld_below {b : Nat} {bs : List Value} {w w' : World} (h : Bld b bs w) (hb : Below w.heap.size w w') : Bld b bs w' := by
  have h1 : ∀ p, BuilderAtF 126 5 b b p bs w → BuilderAtF 126 5 b b p bs w' := by
    rintro p ⟨hB, v, hbk, ⟨hl, hv⟩, hne⟩
    refine ⟨hB, v, blk_below hbk hb, ⟨hl, ?_⟩, hne⟩
    rcases hv with h2 | ⟨g, cap, cur, fz, h2, h3, h4, h5⟩
    · exact .inl h2
    · exact .inr ⟨g, cap, cur, fz, h2, h3, blk_below h4 hb, h5⟩
  rcases h with h | h
  · exact .inl (h1 _ h)
  · exact .inr (h1 _ h)
theorem others_blk {b g t : Nat} {cs : Array Value} {w w' : World} (h : OthersKept 5 (some b) w w') (hg : w.heap[g]? = some (.cells cs t (0, 0))) (hne : g ≠ b) (ht : t ≠ 5) : w'.heap[g]? = some (.cells cs t (0, 0)) :=
  h g _ hg (by simpa using hne) (by intro c fz e; injection e with _ e2; exact ht e2)
/-- A key's text. -/
def encI (l : List Int) : List UInt8 := l.flatMap fun n => Lib.itoa n ++ [32]
def i3 (v : S82) : List Int := [v.f0, v.f1, (v.f2.size : Int)]
def encV (v : S82) : List UInt8 := encI (i3 v) ++ v.f2.data.toList
def encK (row : List S82) : List UInt8 := row.flatMap encV
theorem encK_step {l : List S82} {k : Nat} (h : k < l.length) : encK (l.take (k + 1)) = encK (l.take k) ++ encV (rd_T82 l k) := by
  rw [take_step h, encK, List.flatMap_append]
  simp [encK, rd_T82, h]
theorem encI_step {l : List Int} {k : Nat} (h : k < l.length) : encI (l.take (k + 1)) = encI (l.take k) ++ (Lib.itoa (rd l k) ++ [32]) := by
  rw [take_step h, encI, List.flatMap_append]
  simp [encI, rd, h]
theorem encK_le {l : List S82} (k : Nat) : (encK (l.take k)).length ≤ (encK l).length := by
  conv => rhs; rw [← List.take_append_drop k l]
  rw [encK, encK, List.flatMap_append, List.length_append]
  omega
theorem encI_le {l : List Int} (k : Nat) : (encI (l.take k)).length ≤ (encI l).length := by
  conv => rhs; rw [← List.take_append_drop k l]
  rw [encI, encI, List.flatMap_append, List.length_append]
  omega
def KeyRes (row : List S82) (w : World) (e : Ending) (w' : World) : Prop := e = .returned (.string ⟨(encK row).toArray⟩) ∧ Below w.heap.size w w'

set_option maxHeartbeats 4000000 in
set_option maxRecDepth 100000 in
theorem c111 (A : Option Addr) (n c : Nat) (row : List S82) (w : World) (hr : k82.C w A n row) (hT : TabOK w) (hin : ∀ v ∈ row, InR v) (hlen : (encK row).length ≤ 70368744177664) :
    Calls Tryz.prog 53 #[.slice A n c] w (KeyRes row w) := by
  obtain rfl := hr.1
  have hm := hr.2.1
  have HR := Aside0.mk hr
  have HT := Aside0.mk hT
  have HIN := Lib.hid hin
  clear hr hT hin
  go_enter Tryz.func53, Tryz.ntmps53
  go_wp2
  have hI0 : Bld w.heap.size (byteCells []) (w.alloc (.cells #[.pointer none, .slice none 0 0] 126)) := IsBuilderF.of (Lib.fresh_isBuilder 126 5 w)
  have HI0 := Aside0.mk hI0
  have HB0 := Aside0.mk (below_alloc (Below.refl w.heap.size w) (.cells #[.pointer none, .slice none 0 0] 126))
  have hs0 : w.heap.size < (w.alloc (.cells #[.pointer none, .slice none 0 0] 126)).heap.size := by simp
  clear hI0
  generalize w.alloc (.cells #[.pointer none, .slice none 0 0] 126) = w0 at *
  go_loopw [5, 7, 10] (fun xb xn i wr => ∃ k : Nat, i = .int .i64 k ∧ k ≤ row.length ∧ Aside0 (Bld w.heap.size (byteCells (encK (row.take k))) wr) ∧ Aside0 (Below w.heap.size w wr) ∧ w.heap.size < wr.heap.size) (fun _ _ i _ => row.length - (intOf i).toNat)
  case atStart => exact ⟨0, rfl, Nat.zero_le _, HI0, HB0, hs0⟩
  case round =>
    clear HI0 HB0 hs0
    obtain ⟨k, rfl, hk', HI, HB, hsr⟩ := hrel
    by_cases h1 : k < row.length
    · have hst := Lib.hid (encK_step h1)
      have hle := encK_le (l := row) (k + 1)
      rw [hst.out, List.length_append] at hle
      unfold encV at hle
      rw [List.length_append] at hle
      have hiv := Lib.hid (HIN.out (rd_T82 row k) (by simp [rd_T82, h1]))
      obtain ⟨xa, rfl, x0, x1, x2⟩ := at_T82 HR.out k (by omega) (by omega)
      rw [Int.toNat_natCast] at x0 x1 x2
      replace x0 := pw_cell_below HB.out x0
      replace x1 := pw_cell_below HB.out x1
      replace x2 := pw_cell_below HB.out x2
      have xbl := World.block_lt_of_cell? _ _ x0
      have hk1 : (0 : Int) ≤ k := by omega
      have hk2 : (k : Int) < row.length := by omega
      go_wp2
      have HI1 := Aside0.mk ((HI.out.alloc (.cells #[.int .i64 (rd_T82 row k).f0, .int .i64 (rd_T82 row k).f1, .string (rd_T82 row k).f2] 82)).alloc (.cells #[.int .i64 (rd_T82 row k).f0, .int .i64 (rd_T82 row k).f1, .int .i64 (rd_T82 row k).f2.size] 3))
      have HB1 := Aside0.mk (below_alloc (below_alloc HB.out (.cells #[.int .i64 (rd_T82 row k).f0, .int .i64 (rd_T82 row k).f1, .string (rd_T82 row k).f2] 82)) (.cells #[.int .i64 (rd_T82 row k).f0, .int .i64 (rd_T82 row k).f1, .int .i64 (rd_T82 row k).f2.size] 3))
      have HA1 := Aside0.mk (blk_alloc (blk_new wr (.cells #[.int .i64 (rd_T82 row k).f0, .int .i64 (rd_T82 row k).f1, .string (rd_T82 row k).f2] 82)) (.cells #[.int .i64 (rd_T82 row k).f0, .int .i64 (rd_T82 row k).f1, .int .i64 (rd_T82 row k).f2.size] 3))
      have HC1 := Aside0.mk (hd_alloc_eq (W := wr.alloc (.cells #[.int .i64 (rd_T82 row k).f0, .int .i64 (rd_T82 row k).f1, .string (rd_T82 row k).f2] 82)) (o := .cells #[.int .i64 (rd_T82 row k).f0, .int .i64 (rd_T82 row k).f1, .int .i64 (rd_T82 row k).f2.size] 3) (i := wr.heap.size + 1) (by simp))
      clear HI HB x0 x1 x2 xbl
      have hg2 : w.heap.size < wr.heap.size + 1 := by omega
      generalize (wr.alloc (.cells #[.int .i64 (rd_T82 row k).f0, .int .i64 (rd_T82 row k).f1, .string (rd_T82 row k).f2] 82)).alloc (.cells #[.int .i64 (rd_T82 row k).f0, .int .i64 (rd_T82 row k).f1, .int .i64 (rd_T82 row k).f2.size] 3) = W at *
      generalize wr.heap.size + 1 = g2 at *
      generalize wr.heap.size = g1 at *
      go_loopw [7, 23] (fun xn j wi => ∃ m : Nat, j = .int .i64 m ∧ m ≤ 3 ∧ Aside0 (Bld w.heap.size (byteCells (encK (row.take k) ++ encI ((i3 (rd_T82 row k)).take m))) wi) ∧ Aside0 (Below w.heap.size w wi) ∧ Aside0 (wi.heap[g1]? = some (.cells #[.int .i64 (rd_T82 row k).f0, .int .i64 (rd_T82 row k).f1, .string (rd_T82 row k).f2] 82 (0, 0))) ∧ Aside0 (wi.heap[g2]? = some (.cells #[.int .i64 (rd_T82 row k).f0, .int .i64 (rd_T82 row k).f1, .int .i64 (rd_T82 row k).f2.size] 3 (0, 0)))) (fun _ j _ => 3 - (intOf j).toNat)
      case atStart => exact ⟨0, rfl, Nat.zero_le _, ⟨by rw [List.take_zero, encI, List.flatMap_nil, List.append_nil]; exact HI1.out⟩, HB1, HA1, HC1⟩
      case round =>
        clear HI1 HB1 HA1 HC1
        obtain ⟨m, rfl, hm3, HI, HB, HA, HC⟩ := hrel
        have hwb := HB.out.size
        by_cases h2 : m < 3
        · have y0 : wr.cell? ⟨g2, m, none⟩ = some (.int .i64 (rd (i3 (rd_T82 row k)) m)) := by
            rw [blk_cell HC.out]
            rcases (show m = 0 ∨ m = 1 ∨ m = 2 by omega) with rfl | rfl | rfl <;> rfl
          have hni : InI (rd (i3 (rd_T82 row k)) m) := by
            rcases (show m = 0 ∨ m = 1 ∨ m = 2 by omega) with rfl | rfl | rfl
            · exact hiv.out.1
            · exact hiv.out.2
            · have e : rd (i3 (rd_T82 row k)) ((2 : Nat) : Int) = ((rd_T82 row k).f2.size : Int) := rfl
              have e2 : (rd_T82 row k).f2.data.toList.length = (rd_T82 row k).f2.size := by simp
              rw [e]
              unfold InI
              omega
          have hst2 := encI_step (l := i3 (rd_T82 row k)) (k := m) (show m < (i3 (rd_T82 row k)).length from h2)
          have hle2 := encI_le (l := i3 (rd_T82 row k)) (m + 1)
          rw [hst2, List.length_append, List.length_append, List.length_singleton] at hle2
          have hst2 := Lib.hid hst2
          have hkt := encK_le (l := row) k
          have hj1 : (0 : Int) ≤ m := by omega
          have hj2 : (m : Int) < 3 := by omega
          have yb := World.block_lt_of_cell? _ _ y0
          go_wp2_with fail
          refine (c174 _ hni _ (tab_below HT.out HB.out)).mono ?_
          rintro e w1 ⟨rfl, hb1⟩
          have HI2 := Aside0.mk (bld_below HI.out hb1)
          have HB2 := Aside0.mk (below_step HB.out hb1)
          have HA2 := Aside0.mk (blk_below HA.out hb1)
          have HC2 := Aside0.mk (blk_below HC.out hb1)
          have hs2 := HB2.out.size
          clear HI HB HA HC hb1 y0 yb
          go_wp2_with fail
          refine (c173 w.heap.size _ ⟨(Lib.itoa (rd (i3 (rd_T82 row k)) m)).toArray⟩ _ HI2.out (by rw [Lib.byteCells_length, List.length_append]; show _ + (Lib.itoa (rd (i3 (rd_T82 row k)) m)).toArray.size ≤ _; rw [List.size_toArray]; omega) hs2).mono ?_
          rintro e w2 ⟨rfl, hu, hb2, ho2⟩
          rw [Lib.strCells_eq, ← Lib.byteCells_append] at hu
          have HI3 := Aside0.mk (show Bld _ _ _ from .inr hu)
          have HB3 := Aside0.mk (HB2.out.trans hb2)
          have HA3 := Aside0.mk (others_blk ho2 HA2.out (by omega) (by decide))
          have HC3 := Aside0.mk (others_blk ho2 HC2.out (by omega) (by decide))
          have hs3 := HB3.out.size
          clear HI2 HB2 HA2 HC2 hu hb2 ho2
          go_wp2_with fail
          refine (c175 w.heap.size _ 32 _ HI3.out (by rw [Lib.byteCells_length, List.length_append, List.length_append, show (⟨(Lib.itoa (rd (i3 (rd_T82 row k)) m)).toArray⟩ : ByteArray).data.toList.length = (Lib.itoa (rd (i3 (rd_T82 row k)) m)).length from by simp]; omega) hs3).mono ?_
          rintro e w3 ⟨rfl, hu, hb2, ho2⟩
          have hu2 : Bld w.heap.size (byteCells (encK (row.take k) ++ encI ((i3 (rd_T82 row k)).take (m + 1)))) w3 := by
            rw [hst2.out]
            have e : byteCells (encK (row.take k) ++ (encI ((i3 (rd_T82 row k)).take m) ++ (Lib.itoa (rd (i3 (rd_T82 row k)) m) ++ [32]))) = byteCells (encK (row.take k) ++ encI ((i3 (rd_T82 row k)).take m) ++ (⟨(Lib.itoa (rd (i3 (rd_T82 row k)) m)).toArray⟩ : ByteArray).data.toList) ++ [.int .u8 32] := by simp [byteCells]
            rw [e]
            exact .inr hu
          have HI4 := Aside0.mk hu2
          have HB4 := Aside0.mk (HB3.out.trans hb2)
          have HA4 := Aside0.mk (others_blk ho2 HA3.out (by omega) (by decide))
          have HC4 := Aside0.mk (others_blk ho2 HC3.out (by omega) (by decide))
          clear HI3 HB3 HA3 HC3 hu hb2 ho2 hu2
          go_wp2
          exact ⟨⟨m + 1, by go_num, by omega, HI4, HB4, HA4, HC4⟩, by simp [intOf]; omega⟩
        · obtain rfl : m = 3 := by omega
          have HI2 : Aside0 (Bld w.heap.size (byteCells (encK (row.take k) ++ encI (i3 (rd_T82 row k)))) wr) := HI
          have y0 : wr.cell? ⟨g1, 2, none⟩ = some (.string (rd_T82 row k).f2) := by rw [blk_cell HA.out]; rfl
          have hkt := encK_le (l := row) k
          have e2 : (rd_T82 row k).f2.data.toList.length = (rd_T82 row k).f2.size := by simp
          go_wp2_with fail
          refine (c173 w.heap.size _ (rd_T82 row k).f2 _ HI2.out (by rw [Lib.byteCells_length, List.length_append]; omega) hwb).mono ?_
          rintro e w2 ⟨rfl, hu, hb2, ho2⟩
          rw [Lib.strCells_eq, ← Lib.byteCells_append] at hu
          have HI3 := Aside0.mk (show Bld _ _ _ from .inr hu)
          have HB3 := Aside0.mk (HB.out.trans hb2)
          have hs3 := HB3.out.size
          have hg1 := blk_lt (others_blk ho2 HA.out (by omega) (by decide))
          clear HI HI2 HB HA HC y0 hu hb2 ho2
          go_wp2
          exact ⟨⟨k + 1, by go_num, h1, ⟨by rw [hst.out, encV, ← List.append_assoc]; exact HI3.out⟩, HB3, by omega⟩, by simp [intOf]; omega⟩
    · have ht : row.take k = row := List.take_of_length_le (by omega)
      rw [ht] at HI
      have hwb := HB.out.size
      go_wp2_with fail
      refine (c176 w.heap.size _ _ HI.out hwb).mono ?_
      rintro e w2 ⟨rfl, hb2⟩
      go_wp2
      go_ret
      exact ⟨rfl, HB.out.trans hb2⟩

set_option maxHeartbeats 4000000 in
set_option maxRecDepth 100000 in
theorem c126 (A : Option Addr) (n c : Nat) (row : List S82) (w : World) (hr : k82.C w A n row) (hT : TabOK w) (hin : ∀ v ∈ row, InR v) (hlen : (encK row).length ≤ 70368744177664) :
    Calls Tryz.prog 71 #[.slice A n c] w (KeyRes row w) := by
  obtain rfl := hr.1
  have hm := hr.2.1
  have HR := Aside0.mk hr
  have HT := Aside0.mk hT
  have HIN := Lib.hid hin
  clear hr hT hin
  go_enter Tryz.func71, Tryz.ntmps71
  go_wp2
  have hI0 : Bld w.heap.size (byteCells []) (w.alloc (.cells #[.pointer none, .slice none 0 0] 126)) := IsBuilderF.of (Lib.fresh_isBuilder 126 5 w)
  have HI0 := Aside0.mk hI0
  have HB0 := Aside0.mk (below_alloc (Below.refl w.heap.size w) (.cells #[.pointer none, .slice none 0 0] 126))
  have hs0 : w.heap.size < (w.alloc (.cells #[.pointer none, .slice none 0 0] 126)).heap.size := by simp
  clear hI0
  generalize w.alloc (.cells #[.pointer none, .slice none 0 0] 126) = w0 at *
  go_loopw [5, 7, 10] (fun xb xn i wr => ∃ k : Nat, i = .int .i64 k ∧ k ≤ row.length ∧ Aside0 (Bld w.heap.size (byteCells (encK (row.take k))) wr) ∧ Aside0 (Below w.heap.size w wr) ∧ w.heap.size < wr.heap.size) (fun _ _ i _ => row.length - (intOf i).toNat)
  case atStart => exact ⟨0, rfl, Nat.zero_le _, HI0, HB0, hs0⟩
  case round =>
    clear HI0 HB0 hs0
    obtain ⟨k, rfl, hk', HI, HB, hsr⟩ := hrel
    by_cases h1 : k < row.length
    · have hst := Lib.hid (encK_step h1)
      have hle := encK_le (l := row) (k + 1)
      rw [hst.out, List.length_append] at hle
      unfold encV at hle
      rw [List.length_append] at hle
      have hiv := Lib.hid (HIN.out (rd_T82 row k) (by simp [rd_T82, h1]))
      obtain ⟨xa, rfl, x0, x1, x2⟩ := at_T82 HR.out k (by omega) (by omega)
      rw [Int.toNat_natCast] at x0 x1 x2
      replace x0 := pw_cell_below HB.out x0
      replace x1 := pw_cell_below HB.out x1
      replace x2 := pw_cell_below HB.out x2
      have xbl := World.block_lt_of_cell? _ _ x0
      have hk1 : (0 : Int) ≤ k := by omega
      have hk2 : (k : Int) < row.length := by omega
      go_wp2
      have HI1 := Aside0.mk ((HI.out.alloc (.cells #[.int .i64 (rd_T82 row k).f0, .int .i64 (rd_T82 row k).f1, .string (rd_T82 row k).f2] 82)).alloc (.cells #[.int .i64 (rd_T82 row k).f0, .int .i64 (rd_T82 row k).f1, .int .i64 (rd_T82 row k).f2.size] 3))
      have HB1 := Aside0.mk (below_alloc (below_alloc HB.out (.cells #[.int .i64 (rd_T82 row k).f0, .int .i64 (rd_T82 row k).f1, .string (rd_T82 row k).f2] 82)) (.cells #[.int .i64 (rd_T82 row k).f0, .int .i64 (rd_T82 row k).f1, .int .i64 (rd_T82 row k).f2.size] 3))
      have HA1 := Aside0.mk (blk_alloc (blk_new wr (.cells #[.int .i64 (rd_T82 row k).f0, .int .i64 (rd_T82 row k).f1, .string (rd_T82 row k).f2] 82)) (.cells #[.int .i64 (rd_T82 row k).f0, .int .i64 (rd_T82 row k).f1, .int .i64 (rd_T82 row k).f2.size] 3))
      have HC1 := Aside0.mk (hd_alloc_eq (W := wr.alloc (.cells #[.int .i64 (rd_T82 row k).f0, .int .i64 (rd_T82 row k).f1, .string (rd_T82 row k).f2] 82)) (o := .cells #[.int .i64 (rd_T82 row k).f0, .int .i64 (rd_T82 row k).f1, .int .i64 (rd_T82 row k).f2.size] 3) (i := wr.heap.size + 1) (by simp))
      clear HI HB x0 x1 x2 xbl
      have hg2 : w.heap.size < wr.heap.size + 1 := by omega
      generalize (wr.alloc (.cells #[.int .i64 (rd_T82 row k).f0, .int .i64 (rd_T82 row k).f1, .string (rd_T82 row k).f2] 82)).alloc (.cells #[.int .i64 (rd_T82 row k).f0, .int .i64 (rd_T82 row k).f1, .int .i64 (rd_T82 row k).f2.size] 3) = W at *
      generalize wr.heap.size + 1 = g2 at *
      generalize wr.heap.size = g1 at *
      go_loopw [7, 23] (fun xn j wi => ∃ m : Nat, j = .int .i64 m ∧ m ≤ 3 ∧ Aside0 (Bld w.heap.size (byteCells (encK (row.take k) ++ encI ((i3 (rd_T82 row k)).take m))) wi) ∧ Aside0 (Below w.heap.size w wi) ∧ Aside0 (wi.heap[g1]? = some (.cells #[.int .i64 (rd_T82 row k).f0, .int .i64 (rd_T82 row k).f1, .string (rd_T82 row k).f2] 82 (0, 0))) ∧ Aside0 (wi.heap[g2]? = some (.cells #[.int .i64 (rd_T82 row k).f0, .int .i64 (rd_T82 row k).f1, .int .i64 (rd_T82 row k).f2.size] 3 (0, 0)))) (fun _ j _ => 3 - (intOf j).toNat)
      case atStart => exact ⟨0, rfl, Nat.zero_le _, ⟨by rw [List.take_zero, encI, List.flatMap_nil, List.append_nil]; exact HI1.out⟩, HB1, HA1, HC1⟩
      case round =>
        clear HI1 HB1 HA1 HC1
        obtain ⟨m, rfl, hm3, HI, HB, HA, HC⟩ := hrel
        have hwb := HB.out.size
        by_cases h2 : m < 3
        · have y0 : wr.cell? ⟨g2, m, none⟩ = some (.int .i64 (rd (i3 (rd_T82 row k)) m)) := by
            rw [blk_cell HC.out]
            rcases (show m = 0 ∨ m = 1 ∨ m = 2 by omega) with rfl | rfl | rfl <;> rfl
          have hni : InI (rd (i3 (rd_T82 row k)) m) := by
            rcases (show m = 0 ∨ m = 1 ∨ m = 2 by omega) with rfl | rfl | rfl
            · exact hiv.out.1
            · exact hiv.out.2
            · have e : rd (i3 (rd_T82 row k)) ((2 : Nat) : Int) = ((rd_T82 row k).f2.size : Int) := rfl
              have e2 : (rd_T82 row k).f2.data.toList.length = (rd_T82 row k).f2.size := by simp
              rw [e]
              unfold InI
              omega
          have hst2 := encI_step (l := i3 (rd_T82 row k)) (k := m) (show m < (i3 (rd_T82 row k)).length from h2)
          have hle2 := encI_le (l := i3 (rd_T82 row k)) (m + 1)
          rw [hst2, List.length_append, List.length_append, List.length_singleton] at hle2
          have hst2 := Lib.hid hst2
          have hkt := encK_le (l := row) k
          have hj1 : (0 : Int) ≤ m := by omega
          have hj2 : (m : Int) < 3 := by omega
          have yb := World.block_lt_of_cell? _ _ y0
          go_wp2_with fail
          refine (c174 _ hni _ (tab_below HT.out HB.out)).mono ?_
          rintro e w1 ⟨rfl, hb1⟩
          have HI2 := Aside0.mk (bld_below HI.out hb1)
          have HB2 := Aside0.mk (below_step HB.out hb1)
          have HA2 := Aside0.mk (blk_below HA.out hb1)
          have HC2 := Aside0.mk (blk_below HC.out hb1)
          have hs2 := HB2.out.size
          clear HI HB HA HC hb1 y0 yb
          go_wp2_with fail
          refine (c173 w.heap.size _ ⟨(Lib.itoa (rd (i3 (rd_T82 row k)) m)).toArray⟩ _ HI2.out (by rw [Lib.byteCells_length, List.length_append]; show _ + (Lib.itoa (rd (i3 (rd_T82 row k)) m)).toArray.size ≤ _; rw [List.size_toArray]; omega) hs2).mono ?_
          rintro e w2 ⟨rfl, hu, hb2, ho2⟩
          rw [Lib.strCells_eq, ← Lib.byteCells_append] at hu
          have HI3 := Aside0.mk (show Bld _ _ _ from .inr hu)
          have HB3 := Aside0.mk (HB2.out.trans hb2)
          have HA3 := Aside0.mk (others_blk ho2 HA2.out (by omega) (by decide))
          have HC3 := Aside0.mk (others_blk ho2 HC2.out (by omega) (by decide))
          have hs3 := HB3.out.size
          clear HI2 HB2 HA2 HC2 hu hb2 ho2
          go_wp2_with fail
          refine (c175 w.heap.size _ 32 _ HI3.out (by rw [Lib.byteCells_length, List.length_append, List.length_append, show (⟨(Lib.itoa (rd (i3 (rd_T82 row k)) m)).toArray⟩ : ByteArray).data.toList.length = (Lib.itoa (rd (i3 (rd_T82 row k)) m)).length from by simp]; omega) hs3).mono ?_
          rintro e w3 ⟨rfl, hu, hb2, ho2⟩
          have hu2 : Bld w.heap.size (byteCells (encK (row.take k) ++ encI ((i3 (rd_T82 row k)).take (m + 1)))) w3 := by
            rw [hst2.out]
            have e : byteCells (encK (row.take k) ++ (encI ((i3 (rd_T82 row k)).take m) ++ (Lib.itoa (rd (i3 (rd_T82 row k)) m) ++ [32]))) = byteCells (encK (row.take k) ++ encI ((i3 (rd_T82 row k)).take m) ++ (⟨(Lib.itoa (rd (i3 (rd_T82 row k)) m)).toArray⟩ : ByteArray).data.toList) ++ [.int .u8 32] := by simp [byteCells]
            rw [e]
            exact .inr hu
          have HI4 := Aside0.mk hu2
          have HB4 := Aside0.mk (HB3.out.trans hb2)
          have HA4 := Aside0.mk (others_blk ho2 HA3.out (by omega) (by decide))
          have HC4 := Aside0.mk (others_blk ho2 HC3.out (by omega) (by decide))
          clear HI3 HB3 HA3 HC3 hu hb2 ho2 hu2
          go_wp2
          exact ⟨⟨m + 1, by go_num, by omega, HI4, HB4, HA4, HC4⟩, by simp [intOf]; omega⟩
        · obtain rfl : m = 3 := by omega
          have HI2 : Aside0 (Bld w.heap.size (byteCells (encK (row.take k) ++ encI (i3 (rd_T82 row k)))) wr) := HI
          have y0 : wr.cell? ⟨g1, 2, none⟩ = some (.string (rd_T82 row k).f2) := by rw [blk_cell HA.out]; rfl
          have hkt := encK_le (l := row) k
          have e2 : (rd_T82 row k).f2.data.toList.length = (rd_T82 row k).f2.size := by simp
          go_wp2_with fail
          refine (c173 w.heap.size _ (rd_T82 row k).f2 _ HI2.out (by rw [Lib.byteCells_length, List.length_append]; omega) hwb).mono ?_
          rintro e w2 ⟨rfl, hu, hb2, ho2⟩
          rw [Lib.strCells_eq, ← Lib.byteCells_append] at hu
          have HI3 := Aside0.mk (show Bld _ _ _ from .inr hu)
          have HB3 := Aside0.mk (HB.out.trans hb2)
          have hs3 := HB3.out.size
          have hg1 := blk_lt (others_blk ho2 HA.out (by omega) (by decide))
          clear HI HI2 HB HA HC y0 hu hb2 ho2
          go_wp2
          exact ⟨⟨k + 1, by go_num, h1, ⟨by rw [hst.out, encV, ← List.append_assoc]; exact HI3.out⟩, HB3, by omega⟩, by simp [intOf]; omega⟩
    · have ht : row.take k = row := List.take_of_length_le (by omega)
      rw [ht] at HI
      have hwb := HB.out.size
      go_wp2_with fail
      refine (c176 w.heap.size _ _ HI.out hwb).mono ?_
      rintro e w2 ⟨rfl, hb2⟩
      go_wp2
      go_ret
      exact ⟨rfl, HB.out.trans hb2⟩

set_option maxHeartbeats 4000000 in
set_option maxRecDepth 100000 in
theorem c233 (A : Option Addr) (n c : Nat) (row : List S82) (w : World) (hr : k82.C w A n row) (hT : TabOK w) (hin : ∀ v ∈ row, InR v) (hlen : (encK row).length ≤ 70368744177664) :
    Calls Tryz.prog 163 #[.slice A n c] w (KeyRes row w) := by
  obtain rfl := hr.1
  have hm := hr.2.1
  have HR := Aside0.mk hr
  have HT := Aside0.mk hT
  have HIN := Lib.hid hin
  clear hr hT hin
  go_enter Tryz.func163, Tryz.ntmps163
  go_wp2
  have hI0 : Bld w.heap.size (byteCells []) (w.alloc (.cells #[.pointer none, .slice none 0 0] 126)) := IsBuilderF.of (Lib.fresh_isBuilder 126 5 w)
  have HI0 := Aside0.mk hI0
  have HB0 := Aside0.mk (below_alloc (Below.refl w.heap.size w) (.cells #[.pointer none, .slice none 0 0] 126))
  have hs0 : w.heap.size < (w.alloc (.cells #[.pointer none, .slice none 0 0] 126)).heap.size := by simp
  clear hI0
  generalize w.alloc (.cells #[.pointer none, .slice none 0 0] 126) = w0 at *
  go_loopw [5, 7, 10] (fun xb xn i wr => ∃ k : Nat, i = .int .i64 k ∧ k ≤ row.length ∧ Aside0 (Bld w.heap.size (byteCells (encK (row.take k))) wr) ∧ Aside0 (Below w.heap.size w wr) ∧ w.heap.size < wr.heap.size) (fun _ _ i _ => row.length - (intOf i).toNat)
  case atStart => exact ⟨0, rfl, Nat.zero_le _, HI0, HB0, hs0⟩
  case round =>
    clear HI0 HB0 hs0
    obtain ⟨k, rfl, hk', HI, HB, hsr⟩ := hrel
    by_cases h1 : k < row.length
    · have hst := Lib.hid (encK_step h1)
      have hle := encK_le (l := row) (k + 1)
      rw [hst.out, List.length_append] at hle
      unfold encV at hle
      rw [List.length_append] at hle
      have hiv := Lib.hid (HIN.out (rd_T82 row k) (by simp [rd_T82, h1]))
      obtain ⟨xa, rfl, x0, x1, x2⟩ := at_T82 HR.out k (by omega) (by omega)
      rw [Int.toNat_natCast] at x0 x1 x2
      replace x0 := pw_cell_below HB.out x0
      replace x1 := pw_cell_below HB.out x1
      replace x2 := pw_cell_below HB.out x2
      have xbl := World.block_lt_of_cell? _ _ x0
      have hk1 : (0 : Int) ≤ k := by omega
      have hk2 : (k : Int) < row.length := by omega
      go_wp2
      have HI1 := Aside0.mk ((HI.out.alloc (.cells #[.int .i64 (rd_T82 row k).f0, .int .i64 (rd_T82 row k).f1, .string (rd_T82 row k).f2] 82)).alloc (.cells #[.int .i64 (rd_T82 row k).f0, .int .i64 (rd_T82 row k).f1, .int .i64 (rd_T82 row k).f2.size] 3))
      have HB1 := Aside0.mk (below_alloc (below_alloc HB.out (.cells #[.int .i64 (rd_T82 row k).f0, .int .i64 (rd_T82 row k).f1, .string (rd_T82 row k).f2] 82)) (.cells #[.int .i64 (rd_T82 row k).f0, .int .i64 (rd_T82 row k).f1, .int .i64 (rd_T82 row k).f2.size] 3))
      have HA1 := Aside0.mk (blk_alloc (blk_new wr (.cells #[.int .i64 (rd_T82 row k).f0, .int .i64 (rd_T82 row k).f1, .string (rd_T82 row k).f2] 82)) (.cells #[.int .i64 (rd_T82 row k).f0, .int .i64 (rd_T82 row k).f1, .int .i64 (rd_T82 row k).f2.size] 3))
      have HC1 := Aside0.mk (hd_alloc_eq (W := wr.alloc (.cells #[.int .i64 (rd_T82 row k).f0, .int .i64 (rd_T82 row k).f1, .string (rd_T82 row k).f2] 82)) (o := .cells #[.int .i64 (rd_T82 row k).f0, .int .i64 (rd_T82 row k).f1, .int .i64 (rd_T82 row k).f2.size] 3) (i := wr.heap.size + 1) (by simp))
      clear HI HB x0 x1 x2 xbl
      have hg2 : w.heap.size < wr.heap.size + 1 := by omega
      generalize (wr.alloc (.cells #[.int .i64 (rd_T82 row k).f0, .int .i64 (rd_T82 row k).f1, .string (rd_T82 row k).f2] 82)).alloc (.cells #[.int .i64 (rd_T82 row k).f0, .int .i64 (rd_T82 row k).f1, .int .i64 (rd_T82 row k).f2.size] 3) = W at *
      generalize wr.heap.size + 1 = g2 at *
      generalize wr.heap.size = g1 at *
      go_loopw [7, 23] (fun xn j wi => ∃ m : Nat, j = .int .i64 m ∧ m ≤ 3 ∧ Aside0 (Bld w.heap.size (byteCells (encK (row.take k) ++ encI ((i3 (rd_T82 row k)).take m))) wi) ∧ Aside0 (Below w.heap.size w wi) ∧ Aside0 (wi.heap[g1]? = some (.cells #[.int .i64 (rd_T82 row k).f0, .int .i64 (rd_T82 row k).f1, .string (rd_T82 row k).f2] 82 (0, 0))) ∧ Aside0 (wi.heap[g2]? = some (.cells #[.int .i64 (rd_T82 row k).f0, .int .i64 (rd_T82 row k).f1, .int .i64 (rd_T82 row k).f2.size] 3 (0, 0)))) (fun _ j _ => 3 - (intOf j).toNat)
      case atStart => exact ⟨0, rfl, Nat.zero_le _, ⟨by rw [List.take_zero, encI, List.flatMap_nil, List.append_nil]; exact HI1.out⟩, HB1, HA1, HC1⟩
      case round =>
        clear HI1 HB1 HA1 HC1
        obtain ⟨m, rfl, hm3, HI, HB, HA, HC⟩ := hrel
        have hwb := HB.out.size
        by_cases h2 : m < 3
        · have y0 : wr.cell? ⟨g2, m, none⟩ = some (.int .i64 (rd (i3 (rd_T82 row k)) m)) := by
            rw [blk_cell HC.out]
            rcases (show m = 0 ∨ m = 1 ∨ m = 2 by omega) with rfl | rfl | rfl <;> rfl
          have hni : InI (rd (i3 (rd_T82 row k)) m) := by
            rcases (show m = 0 ∨ m = 1 ∨ m = 2 by omega) with rfl | rfl | rfl
            · exact hiv.out.1
            · exact hiv.out.2
            · have e : rd (i3 (rd_T82 row k)) ((2 : Nat) : Int) = ((rd_T82 row k).f2.size : Int) := rfl
              have e2 : (rd_T82 row k).f2.data.toList.length = (rd_T82 row k).f2.size := by simp
              rw [e]
              unfold InI
              omega
          have hst2 := encI_step (l := i3 (rd_T82 row k)) (k := m) (show m < (i3 (rd_T82 row k)).length from h2)
          have hle2 := encI_le (l := i3 (rd_T82 row k)) (m + 1)
          rw [hst2, List.length_append, List.length_append, List.length_singleton] at hle2
          have hst2 := Lib.hid hst2
          have hkt := encK_le (l := row) k
          have hj1 : (0 : Int) ≤ m := by omega
          have hj2 : (m : Int) < 3 := by omega
          have yb := World.block_lt_of_cell? _ _ y0
          go_wp2_with fail
          refine (c174 _ hni _ (tab_below HT.out HB.out)).mono ?_
          rintro e w1 ⟨rfl, hb1⟩
          have HI2 := Aside0.mk (bld_below HI.out hb1)
          have HB2 := Aside0.mk (below_step HB.out hb1)
          have HA2 := Aside0.mk (blk_below HA.out hb1)
          have HC2 := Aside0.mk (blk_below HC.out hb1)
          have hs2 := HB2.out.size
          clear HI HB HA HC hb1 y0 yb
          go_wp2_with fail
          refine (c173 w.heap.size _ ⟨(Lib.itoa (rd (i3 (rd_T82 row k)) m)).toArray⟩ _ HI2.out (by rw [Lib.byteCells_length, List.length_append]; show _ + (Lib.itoa (rd (i3 (rd_T82 row k)) m)).toArray.size ≤ _; rw [List.size_toArray]; omega) hs2).mono ?_
          rintro e w2 ⟨rfl, hu, hb2, ho2⟩
          rw [Lib.strCells_eq, ← Lib.byteCells_append] at hu
          have HI3 := Aside0.mk (show Bld _ _ _ from .inr hu)
          have HB3 := Aside0.mk (HB2.out.trans hb2)
          have HA3 := Aside0.mk (others_blk ho2 HA2.out (by omega) (by decide))
          have HC3 := Aside0.mk (others_blk ho2 HC2.out (by omega) (by decide))
          have hs3 := HB3.out.size
          clear HI2 HB2 HA2 HC2 hu hb2 ho2
          go_wp2_with fail
          refine (c175 w.heap.size _ 32 _ HI3.out (by rw [Lib.byteCells_length, List.length_append, List.length_append, show (⟨(Lib.itoa (rd (i3 (rd_T82 row k)) m)).toArray⟩ : ByteArray).data.toList.length = (Lib.itoa (rd (i3 (rd_T82 row k)) m)).length from by simp]; omega) hs3).mono ?_
          rintro e w3 ⟨rfl, hu, hb2, ho2⟩
          have hu2 : Bld w.heap.size (byteCells (encK (row.take k) ++ encI ((i3 (rd_T82 row k)).take (m + 1)))) w3 := by
            rw [hst2.out]
            have e : byteCells (encK (row.take k) ++ (encI ((i3 (rd_T82 row k)).take m) ++ (Lib.itoa (rd (i3 (rd_T82 row k)) m) ++ [32]))) = byteCells (encK (row.take k) ++ encI ((i3 (rd_T82 row k)).take m) ++ (⟨(Lib.itoa (rd (i3 (rd_T82 row k)) m)).toArray⟩ : ByteArray).data.toList) ++ [.int .u8 32] := by simp [byteCells]
            rw [e]
            exact .inr hu
          have HI4 := Aside0.mk hu2
          have HB4 := Aside0.mk (HB3.out.trans hb2)
          have HA4 := Aside0.mk (others_blk ho2 HA3.out (by omega) (by decide))
          have HC4 := Aside0.mk (others_blk ho2 HC3.out (by omega) (by decide))
          clear HI3 HB3 HA3 HC3 hu hb2 ho2 hu2
          go_wp2
          exact ⟨⟨m + 1, by go_num, by omega, HI4, HB4, HA4, HC4⟩, by simp [intOf]; omega⟩
        · obtain rfl : m = 3 := by omega
          have HI2 : Aside0 (Bld w.heap.size (byteCells (encK (row.take k) ++ encI (i3 (rd_T82 row k)))) wr) := HI
          have y0 : wr.cell? ⟨g1, 2, none⟩ = some (.string (rd_T82 row k).f2) := by rw [blk_cell HA.out]; rfl
          have hkt := encK_le (l := row) k
          have e2 : (rd_T82 row k).f2.data.toList.length = (rd_T82 row k).f2.size := by simp
          go_wp2_with fail
          refine (c173 w.heap.size _ (rd_T82 row k).f2 _ HI2.out (by rw [Lib.byteCells_length, List.length_append]; omega) hwb).mono ?_
          rintro e w2 ⟨rfl, hu, hb2, ho2⟩
          rw [Lib.strCells_eq, ← Lib.byteCells_append] at hu
          have HI3 := Aside0.mk (show Bld _ _ _ from .inr hu)
          have HB3 := Aside0.mk (HB.out.trans hb2)
          have hs3 := HB3.out.size
          have hg1 := blk_lt (others_blk ho2 HA.out (by omega) (by decide))
          clear HI HI2 HB HA HC y0 hu hb2 ho2
          go_wp2
          exact ⟨⟨k + 1, by go_num, h1, ⟨by rw [hst.out, encV, ← List.append_assoc]; exact HI3.out⟩, HB3, by omega⟩, by simp [intOf]; omega⟩
    · have ht : row.take k = row := List.take_of_length_le (by omega)
      rw [ht] at HI
      have hwb := HB.out.size
      go_wp2_with fail
      refine (c176 w.heap.size _ _ HI.out hwb).mono ?_
      rintro e w2 ⟨rfl, hb2⟩
      go_wp2
      go_ret
      exact ⟨rfl, HB.out.trans hb2⟩
end Go.Proofs.YtiamihkfphmohaaGreatDoor.PA

namespace Go.Proofs.YtiamihkfphmohaaGreatDoor.PA
open Go.RowKit Go.Proofs.YtiamihkfphmohaaGreatDoorW.PrintWords Go.Proofs.YtiamihkfphmohaaGreatDoorW.PrintLast Go.Proofs.YtiamihkfphmohaaGreatDoorW.PrintMore

open Go.Maps (Keyed has)
/-! ### Maps from strings to raw values -/
def RV : Value → Option (DataW Value × List MemPlace) := fun v => some (.held v, [])
theorem key9 : Keyed Tryz.prog 9 := Maps.string_keyed Tryz.underlying9
theorem keyOf9 (s : ByteArray) (hs : s.size ≤ maxLen) : keyOf Tryz.prog 9 (.string s) = some (.string s.data.toList) := by
  simp [keyOf, mapKey, Tryz.underlying9, hs]
/-- Block b is a map: what it holds at a key. -/
def VMap (W : World) (b n : Nat) (f : List UInt8 → Option Value) : Prop :=
  ∃ D, W.ownsMap Tryz.prog 9 RV b n D ∧ Maps.IsMap D ∧ (∀ s, has D (.string s) = (f s).isSome) ∧ ∀ s v, f s = some v → ∀ z, D.atKey (.string s) z = .held v
theorem VMap.made (w : World) : VMap (w.alloc (.map #[] 0)) w.heap.size 0 (fun _ => none) :=
  ⟨.map [], World.ownsMap_made w _ _ _, Maps.isMap_empty, fun s => rfl, fun s v h => by cases h⟩
theorem VMap.lt {W : World} {b n : Nat} {f : List UInt8 → Option Value} (h : VMap W b n f) : b < W.heap.size := by obtain ⟨D, h, _⟩ := h; exact h.lt
theorem VMap.kept {W W' : World} {b n : Nat} {f : List UInt8 → Option Value} {row : Option Nat} (h : VMap W b n f) (hg : W.grownBy W' row) (hne : some b ≠ row) : VMap W' b n f := by
  obtain ⟨D, h, h2⟩ := h
  exact ⟨D, h.kept hg hne, h2⟩
theorem VMap.below {W W' : World} {b n : Nat} {f : List UInt8 → Option Value} (h : VMap W b n f) (hb : Below W.heap.size W W') : VMap W' b n f := h.kept (grown_of_below hb none) (by simp)
theorem VMap.blk {W W' : World} {b n : Nat} {f : List UInt8 → Option Value} (h : VMap W b n f) (hb : W'.heap[b]? = W.heap[b]?) : VMap W' b n f := by
  obtain ⟨D, ⟨es, clock, h1, h2⟩, h3⟩ := h
  exact ⟨D, ⟨es, clock, hb.trans h1, h2⟩, h3⟩
theorem VMap.lookup {W : World} {b n t e : Nat} {f : List UInt8 → Option Value} (h : VMap W b n f) (ht : Tryz.prog.underlying t = some (.map 9 e)) {z : Value} (hz : (zeroValue e).run Tryz.prog W = .ok z W) (s : ByteArray) (hs : s.size ≤ maxLen) :
    (Instr.lookup t (.map (some b)) (.string s) false).run Tryz.prog W = .ok ((f s.data.toList).getD z) W := by
  obtain ⟨D, h, _, h2, h3⟩ := h
  obtain ⟨v, ps, hrun, hv⟩ := h.lookup key9 ht hz (R := RV) (zd := .held z) (zp := []) rfl (keyOf9 s hs)
  rw [hrun]
  have hv : some (DataW.held v, ([] : List MemPlace)) = some (D.atKey (.string s.data.toList) (.held z), ps) := hv
  simp only [Option.some.injEq, Prod.mk.injEq] at hv
  cases hf : f s.data.toList with
  | none =>
    have := h2 s.data.toList
    rw [hf] at this
    rw [Maps.atKey_of_not_has this] at hv
    obtain ⟨hv, _⟩ := hv
    rw [DataW.held.injEq] at hv
    rw [← hv]
    rfl
  | some u =>
    rw [h3 _ _ hf] at hv
    obtain ⟨hv, _⟩ := hv
    rw [DataW.held.injEq] at hv
    rw [← hv]
    rfl
theorem VMap.look_ok {W : World} {b n t e : Nat} {f : List UInt8 → Option Value} (h : VMap W b n f) (ht : Tryz.prog.underlying t = some (.map 9 e)) {z : Value} (hz : (zeroValue e).run Tryz.prog W = .ok z W) (s : ByteArray) (hs : s.size ≤ maxLen) :
    (Instr.lookup t (.map (some b)) (.string s) true).run Tryz.prog W = .ok (.tuple #[(f s.data.toList).getD z, .bool (f s.data.toList).isSome]) W := by
  obtain ⟨D, h, _, h2, h3⟩ := h
  obtain ⟨v, ps, hrun, hv⟩ := h.look_ok key9 ht hz (R := RV) (zd := .held z) (zp := []) rfl (keyOf9 s hs)
  rw [hrun]
  have hv : some (DataW.held v, ([] : List MemPlace)) = some (D.atKey (.string s.data.toList) (.held z), ps) := hv
  simp only [Option.some.injEq, Prod.mk.injEq] at hv
  rw [h2]
  cases hf : f s.data.toList with
  | none =>
    have := h2 s.data.toList
    rw [hf] at this
    rw [Maps.atKey_of_not_has this] at hv
    obtain ⟨hv, _⟩ := hv
    rw [DataW.held.injEq] at hv
    rw [← hv]
    rfl
  | some u =>
    rw [h3 _ _ hf] at hv
    obtain ⟨hv, _⟩ := hv
    rw [DataW.held.injEq] at hv
    rw [← hv]
    rfl
/-- The map with one key set. -/
def fset (f : List UInt8 → Option Value) (s : List UInt8) (v : Value) : List UInt8 → Option Value := fun k => if k = s then some v else f k
theorem VMap.update {W : World} {b n t e : Nat} {f : List UInt8 → Option Value} (h : VMap W b n f) (ht : Tryz.prog.underlying t = some (.map 9 e)) (hn : n < maxLen) (s : ByteArray) (hs : s.size ≤ maxLen) (v : Value) :
    ∃ W', (Instr.mapUpdate t (.map (some b)) (.string s) v).run Tryz.prog W = .ok () W' ∧ VMap W' b (n + 1) (fset f s.data.toList v) ∧ W.grownBy W' (some b) := by
  obtain ⟨D, h, h1, h2, h3⟩ := h
  obtain ⟨W', hrun, hW, hg⟩ := h.update key9 ht hn (keyOf9 s hs) (R := RV) (val := v) (d := .held v) (ps := []) rfl
  refine ⟨W', hrun, ⟨_, hW, h1.put _ _, fun k => ?_, fun k u hu z => ?_⟩, hg⟩
  · unfold fset
    by_cases hk : k = s.data.toList
    · subst hk
      rw [if_pos rfl, Maps.has_put_same h1 (by exact trivial)]
      rfl
    · rw [if_neg hk, Maps.has_put_other (by intro e; injection e with e; exact hk e), h2]
  · unfold fset at hu
    by_cases hk : k = s.data.toList
    · subst hk
      rw [if_pos rfl] at hu
      rw [Option.some.injEq] at hu
      subst hu
      exact Maps.atKey_put_same h1 (by exact trivial) _ _
    · rw [if_neg hk] at hu
      rw [Maps.atKey_put_other (by intro e; injection e with e; exact hk e)]
      exact h3 k u hu z
/-- A range over a map under way: lf: what is to come. -/
def VRange (W : World) (b r n : Nat) (f : List UInt8 → Option Value) (lf : List UInt8 → Bool) (cnt : Nat) : Prop :=
  ∃ D left, W.ranges Tryz.prog 9 RV b r n D left cnt ∧ (∀ s, has D (.string s) = (f s).isSome) ∧ (∀ s v, f s = some v → ∀ z, D.atKey (.string s) z = .held v) ∧ (∀ s, left (.string s) = lf s) ∧ ∀ s, lf s = true → (f s).isSome = true
theorem VMap.range {W : World} {b n t e : Nat} {f : List UInt8 → Option Value} (h : VMap W b n f) (ht : Tryz.prog.underlying t = some (.map 9 e)) :
    ∃ W' cnt, (Instr.range t (.map (some b))).run Tryz.prog W = .ok (.pointer (some ⟨W.heap.size, 0, none⟩)) W' ∧ VRange W' b W.heap.size n f (fun s => (f s).isSome) cnt ∧ cnt ≤ n ∧ W.grownBy W' none ∧ W'.heap.size = W.heap.size + 1 := by
  obtain ⟨D, h, h1, h2, h3⟩ := h
  obtain ⟨W', hrun, hr, hg, hs⟩ := h.range key9 ht
  exact ⟨W', _, hrun, ⟨D, _, hr, h2, h3, h2, fun s hs => hs⟩, h.size_le, hg, hs⟩
theorem VRange.left_eq {W : World} {b r n : Nat} {f : List UInt8 → Option Value} {lf : List UInt8 → Bool} {cnt : Nat} (h : VRange W b r n f lf cnt) : W.rangeLeft b r = cnt := by
  obtain ⟨D, left, h, _⟩ := h
  exact h.left_eq
theorem VRange.map {W : World} {b r n : Nat} {f : List UInt8 → Option Value} {lf : List UInt8 → Bool} {cnt : Nat} (h : VRange W b r n f lf cnt) : ∃ D, W.ownsMap Tryz.prog 9 RV b n D := by
  obtain ⟨D, left, h, _⟩ := h
  exact ⟨D, h.owns⟩
theorem VRange.lt {W : World} {b r n : Nat} {f : List UInt8 → Option Value} {lf : List UInt8 → Bool} {cnt : Nat} (h : VRange W b r n f lf cnt) : r < W.heap.size := by
  obtain ⟨D, left, h, _⟩ := h
  exact h.lt
theorem VRange.kept {W W' : World} {b r n : Nat} {f : List UInt8 → Option Value} {lf : List UInt8 → Bool} {cnt : Nat} {row : Option Nat} (h : VRange W b r n f lf cnt) (hg : W.grownBy W' row) (h1 : some b ≠ row) (h2 : some r ≠ row) : VRange W' b r n f lf cnt := by
  obtain ⟨D, left, h, hh⟩ := h
  exact ⟨D, left, h.kept hg h1 h2, hh⟩
theorem VRange.iter {W : World} {b r n : Nat} {f : List UInt8 → Option Value} {lf : List UInt8 → Bool} {cnt : Nat} (h : VRange W b r n f lf cnt) : ∃ m s a c, W.heap[r]? = some (.mapIter m s a c) := by
  obtain ⟨D, left, ⟨es, clock, since, seen, c0, _, _, _, _, h1, _⟩, _⟩ := h
  exact ⟨_, _, _, _, h1⟩
theorem VRange.ne {W : World} {b r n : Nat} {f : List UInt8 → Option Value} {lf : List UInt8 → Bool} {cnt : Nat} (h : VRange W b r n f lf cnt) : r ≠ b := by
  obtain ⟨D, left, h, _⟩ := h
  exact h.ne
theorem VRange.next {W : World} {b r n : Nat} {f : List UInt8 → Option Value} {lf : List UInt8 → Bool} {cnt : Nat} (h : VRange W b r n f lf cnt) (ty : TypeId) :
    (cnt = 0 ∧ (∀ s, lf s = false) ∧ (Instr.next (.pointer (some ⟨r, 0, none⟩)) false ty).run Tryz.prog W = .ok (.tuple #[.bool false]) W) ∨
    ∃ (s : ByteArray) (v : Value) (W' : World) (cnt' : Nat), s.size ≤ maxLen ∧ lf s.data.toList = true ∧ f s.data.toList = some v ∧ (Instr.next (.pointer (some ⟨r, 0, none⟩)) false ty).run Tryz.prog W = .ok (.tuple #[.bool true, .string s, v]) W' ∧
      VRange W' b r n f (fun k => lf k && !decide (k = s.data.toList)) cnt' ∧ cnt' < cnt ∧ W.grownBy W' (some r) ∧ W'.heap.size = W.heap.size ∧ (Instr.entry (.pointer (some ⟨r, 0, none⟩))).run Tryz.prog W' = .ok (.tuple #[.string s, v]) W' := by
  obtain ⟨D, left, h, h2, h3, h4, h5⟩ := h
  rcases h.next key9 ty with ⟨h0, hl, hrun⟩ | ⟨key, v, kl, y, W', cnt', hkey, hlk, hv, hat, hrun, hrg, hlt, hgr, hsz, hen⟩
  · exact .inl ⟨h0, fun s => by rw [← h4, hl], hrun⟩
  · obtain ⟨x, rfl, rfl, hx⟩ := Maps.keyOf_str Tryz.underlying9 hkey
    have hx' : (⟨x.toArray⟩ : ByteArray).data.toList = x := rfl
    have hlx : lf x = true := by rw [← h4]; exact hlk
    have hfx := h5 x hlx
    obtain ⟨u, hu⟩ := Option.isSome_iff_exists.1 hfx
    have huv : u = v := by
      have e1 := h3 x u hu (.held u)
      have e2 := hat (.held u)
      have hv : some (DataW.held v, ([] : List MemPlace)) = some y := hv
      rw [Option.some.injEq] at hv
      rw [← hv] at e2
      rw [e1, DataW.held.injEq] at e2
      exact e2
    subst huv
    refine .inr ⟨⟨x.toArray⟩, u, W', cnt', hx, hlx, hu, hrun, ⟨D, _, hrg, h2, h3, fun s => ?_, fun s hs => h5 s (by simp at hs; exact hs.1)⟩, hlt, hgr, hsz, hen⟩
    have e : (Lit.string s).sameKey (.string x) = decide (s = x) := by
      by_cases hs : s = x
      · subst hs
        rw [decide_eq_true rfl]
        exact WideAt.sameKey_self trivial
      · rw [decide_eq_false hs]
        exact Maps.sameKey_ne (by intro e; rw [Lit.string.injEq] at e; exact hs e)
    show (left (.string s) && !(Lit.string s).sameKey (.string x)) = _
    rw [h4, hx', e]
end Go.Proofs.YtiamihkfphmohaaGreatDoor.PA

namespace Go.Proofs.YtiamihkfphmohaaGreatDoor.PA
open Go.RowKit Go.Proofs.YtiamihkfphmohaaGreatDoorW.PrintWords Go.Proofs.YtiamihkfphmohaaGreatDoorW.PrintLast Go.Proofs.YtiamihkfphmohaaGreatDoorW.PrintMore

open Go.Lib (OthersKept)
def cn1 (p : S50) : S115 := ⟨p, 1⟩
/-- The periods by keys: what the map of block mb holds. -/
def Pcs (W : World) (base mb n : Nat) (g : List UInt8 → List S50) : Prop :=
  base ≤ mb ∧ ∃ f, VMap W mb n f ∧ (∀ s, f s = none → g s = []) ∧ (∀ s v, f s = some v → 0 < (g s).length ∧ k115.R 115 W base (fun _ => True) v ((g s).map cn1)) ∧ ∀ s t v u, f s = some v → f t = some u → s ≠ t → v.ownBlock ≠ u.ownBlock
theorem Pcs.below {W W' : World} {base mb n : Nat} {g : List UInt8 → List S50} (h : Pcs W base mb n g) (hb : Below W.heap.size W W') : Pcs W' base mb n g := by
  obtain ⟨h1, f, h2, h3, h4, h5⟩ := h
  exact ⟨h1, f, h2.below hb, h3, fun s v hv => ⟨(h4 s v hv).1, Kd.R_below (h4 s v hv).2 hb⟩, h5⟩
theorem step_update {ops : Array Oper} {o : Oper} {a : Act} {W W' : World} {Kc : Act → World → Prop} {Q : Exit → Act → World → Prop} (hw : Region.wanted o (yielded ops a.tmps) = true) (t : TypeId) (m x v : Operand) (ho : o.op = .mapUpdate t m x v)
    (b : Nat) (key val : Value) (hm : a.eval m = .map (some b)) (hx : a.eval x = key) (hv : a.eval v = val) (hrun : (Instr.mapUpdate t (.map (some b)) key val).run Tryz.prog W = .ok () W') (h : Kc (a.put o.dst undef) W') :
    if Region.wanted o (yielded ops a.tmps) = true then Oper.wp Tryz.prog o a W Kc Q else Kc (a.put o.dst undef) W := by
  rw [if_pos hw]
  unfold Oper.wp
  simp [execOp, ho, hm, hx, hv, hrun, Result.andThen]
  exact h
theorem step_lookup {ops : Array Oper} {o : Oper} {a : Act} {W : World} {Kc : Act → World → Prop} {Q : Exit → Act → World → Prop} (hw : Region.wanted o (yielded ops a.tmps) = true) (t : TypeId) (m x : Operand) (ho : o.op = .lookup t m x false)
    (b : Nat) (key v : Value) (hm : a.eval m = .map (some b)) (hx : a.eval x = key) (hrun : (Instr.lookup t (.map (some b)) key false).run Tryz.prog W = .ok v W) (h : Kc (a.put o.dst v) W) :
    if Region.wanted o (yielded ops a.tmps) = true then Oper.wp Tryz.prog o a W Kc Q else Kc (a.put o.dst undef) W := by
  rw [if_pos hw]
  unfold Oper.wp
  simp [execOp, ho, hm, hx, hrun, Result.andThen]
  exact h
/-- A row of one's own lies apart from a block of another type. -/
theorem R_apart {α : Type} {d : Kd α} {e : Nat} {w : World} {base : Nat} {ok : Nat → Prop} {v : Value} {xs : List α} (h : d.R e w base ok v xs) {k : Nat} {o : Obj} (hk : w.heap[k]? = some o) (ho : ∀ cs, o ≠ .cells cs e (0, 0)) : some k ≠ v.ownBlock := by
  intro he
  obtain ⟨h0, inner, ⟨hl, hv⟩, hr⟩ := h
  rcases hv with ⟨rfl, _⟩ | ⟨g, cap, cur, rfl, hb, hh, _⟩
  · cases he
  · have : k = g := by simpa [Value.ownBlock] using he
    subst this
    rw [hk] at hh
    exact ho _ (Option.some.inj hh)
def gadd (g : List UInt8 → List S50) (s : List UInt8) (p : S50) : List UInt8 → List S50 := fun t => if t = s then g s ++ [p] else g t
theorem gadd_eq (g : List UInt8 → List S50) (s : List UInt8) (p : S50) : gadd g s p s = g s ++ [p] := if_pos rfl
theorem gadd_ne {g : List UInt8 → List S50} {s t : List UInt8} {p : S50} (h : ¬ t = s) : gadd g s p t = g t := if_neg h
set_option maxHeartbeats 4000000 in
set_option maxRecDepth 100000 in
theorem c169 (nm : ByteArray) (vc vf vk : Value) (A2 : Option Addr) (n2 c2 : Nat) (cols : List Int) (tb pb mb base N : Nat) (g : List UInt8 → List S50) (A : Option Addr) (n c : Nat) (row : List S82) (p : S50) (w0 w : World)
    (hr : k82.C w A n row) (hc : (Kd.int .i64).C w A2 n2 cols) (hcl : cols.length ≤ 1000000)
    (htb : w.heap[tb]? = some (.cells #[.string nm, vc, .slice A2 n2 c2, vf, vk] 27 (0, 0))) (hpb : w.heap[pb]? = some (.cells #[.map (some mb)] 112 (0, 0)))
    (hT : TabOK w) (hin : ∀ v ∈ pick row cols, InR v) (hlen : (encK (pick row cols)).length ≤ 70368744177664)
    (hP : Pcs w base mb N g) (HB : Below base w0 w) (hN : N ≤ 1000000) (hg : ∀ s, (g s).length ≤ 1000000) :
    Calls Tryz.prog 85 #[.agg #[.slice A n c, .int .i64 p.f0, .int .i64 p.f1], .pointer (some ⟨tb, 0, none⟩), .pointer (some ⟨pb, 0, none⟩)] w fun e w' =>
      e = .returned (.tuple #[]) ∧ Pcs w' base mb (N + 1) (gadd g (encK (pick row cols)) p) ∧ Below base w0 w' ∧ OthersKept 115 (some mb) w w' := by
  have hbs : base ≤ w.heap.size := by
    obtain ⟨h1, f, h2, _⟩ := hP
    have := h2.lt
    omega
  obtain rfl := hr.1
  obtain rfl := hc.1
  have HR := Aside0.mk hr
  have HC := Aside0.mk hc
  have HT := Aside0.mk hT
  have HIN := Lib.hid hin
  have HP := Aside0.mk hP
  have HB0 := Aside0.mk HB
  have HG := Lib.hid hg
  have t0 : w.cell? ⟨tb, 0, none⟩ = some (.string nm) := by rw [blk_cell htb]; rfl
  have t1 : w.cell? ⟨tb, 1, none⟩ = some vc := by rw [blk_cell htb]; rfl
  have t2 : w.cell? ⟨tb, 2, none⟩ = some (.slice A2 cols.length c2) := by rw [blk_cell htb]; rfl
  have t3 : w.cell? ⟨tb, 3, none⟩ = some vf := by rw [blk_cell htb]; rfl
  have t4 : w.cell? ⟨tb, 4, none⟩ = some vk := by rw [blk_cell htb]; rfl
  have tl := blk_lt htb
  have HTB := Aside0.mk htb
  have HPB := Aside0.mk hpb
  clear hr hc hT hin hP HB hg htb hpb
  go_enter Tryz.func85, Tryz.ntmps85
  go_wp2_with fail
  refine (c112 nm vc vf vk A2 _ c2 cols A _ c row _ (Kd.C_below HR.out (below_alloc (Below.refl _ _) _)) (Kd.C_below HC.out (below_alloc (Below.refl _ _) _)) hcl).mono ?_
  rintro e w1 ⟨v1, rfl, hR1, hb1⟩
  obtain ⟨A9, c9, rfl⟩ := Kd.R_slice hR1
  go_wp2_with fail
  refine (c111 _ _ _ (pick row cols) w1 (Kd.R_reads' hR1).2.2 (tab_below HT.out (bel1 hb1)) HIN.out hlen).mono ?_
  rintro e w2 ⟨rfl, hb2⟩
  go_wp2_with fail
  have hbw : Below w.heap.size w w2 := bthen (bel1 hb1) hb2
  have hkey : (⟨(encK (pick row cols)).toArray⟩ : ByteArray).data.toList = encK (pick row cols) := rfl
  have hksz : (⟨(encK (pick row cols)).toArray⟩ : ByteArray).size ≤ maxLen := by show (encK (pick row cols)).toArray.size ≤ maxLen; rw [List.size_toArray]; unfold maxLen; omega
  obtain ⟨hbm, f, hV, hf0, hf1, hfd⟩ := HP.out.below hbw
  generalize (⟨(encK (pick row cols)).toArray⟩ : ByteArray) = KS at *
  generalize hkk : encK (pick row cols) = kk at *
  have hz : ∀ W, (zeroValue 113).run Tryz.prog W = .ok (.slice none 0 0) W := fun W => by kernel_rfl
  have hLq : ∀ W, W.heap[mb]? = w2.heap[mb]? → (Instr.lookup 112 (.map (some mb)) (.string KS) false).run Tryz.prog W = .ok ((f kk).getD (.slice none 0 0)) W := fun W hW => by have h := (hV.blk hW).lookup Tryz.underlying112 (hz W) KS hksz; rwa [hkey] at h
  have hvR : k115.R 115 w2 base (fun _ => True) ((f kk).getD (.slice none 0 0)) ((g kk).map cn1) := by
    cases hf : f kk with
    | none => rw [hf0 _ hf]; exact Kd.R_nil _ _ _ _ _
    | some v => exact (hf1 _ v hf).2
  have hvn : ∀ t u, f t = some u → t ≠ kk → u.ownBlock ≠ ((f kk).getD (.slice none 0 0)).ownBlock ∨ ((f kk).getD (.slice none 0 0)).ownBlock = none := by
    intro t u hu hne
    cases hf : f kk with
    | none => exact .inr rfl
    | some v => exact .inl (hfd _ _ u v hu hf hne)
  have hL0 := hLq w2 rfl
  generalize (f kk).getD (.slice none 0 0) = v at *
  obtain ⟨A5, c5, hv5⟩ := Kd.R_slice hvR
  rw [List.length_map] at hv5
  subst hv5
  have hgl := HG.out kk
  have y0 : w2.cell? ⟨pb, 0, none⟩ = some (.map (some mb)) := by rw [blk_cell (blk_below HPB.out hbw)]; rfl
  have hbx := blk_below (blk_below (blk_new w (.cells #[.slice A row.length c, .int .i64 p.f0, .int .i64 p.f1] 58)) hb1) hb2
  have y1 : w2.cell? ⟨w.heap.size, 1, none⟩ = some (.int .i64 p.f0) := by rw [blk_cell hbx]; rfl
  have y2 : w2.cell? ⟨w.heap.size, 2, none⟩ = some (.int .i64 p.f1) := by rw [blk_cell hbx]; rfl
  have lmb := hV.lt
  have lpb := World.block_lt_of_cell? _ _ y0
  have lbx := World.block_lt_of_cell? _ _ y1
  have lbx2 := World.block_lt_of_cell? _ _ y2
  have hvm : some mb ≠ (Value.slice A5 (g kk).length c5).ownBlock := by
    obtain ⟨D, ⟨es, clock, h1, _⟩, _⟩ := hV
    exact R_apart hvR h1 (by intro cs e; cases e)
  have hvp : some pb ≠ (Value.slice A5 (g kk).length c5).ownBlock := R_apart hvR (blk_below HPB.out hbw) (by intro cs e; injection e with _ e2; cases e2)
  have hvb : some w.heap.size ≠ (Value.slice A5 (g kk).length c5).ownBlock := R_apart hvR hbx (by intro cs e; injection e with _ e2; cases e2)
  have HVR := Aside0.mk hvR
  have hmp : some pb ≠ some mb := by
    intro e
    obtain ⟨D, ⟨es, clock, h1, _⟩, _⟩ := hV
    rw [← Option.some.inj e, blk_below HPB.out hbw] at h1
    cases Option.some.inj h1
  have hmb : some w.heap.size ≠ some mb := by
    intro e
    obtain ⟨D, ⟨es, clock, h1, _⟩, _⟩ := hV
    rw [← Option.some.inj e, hbx] at h1
    cases Option.some.inj h1
  obtain ⟨esm, clm, hmbk⟩ : ∃ es clock, w2.heap[mb]? = some (.map es clock) := by
    obtain ⟨D, ⟨es, clock, h1, _⟩, _⟩ := hV
    exact ⟨es, clock, h1⟩
  have HMB := Lib.hid hmbk
  clear hmbk
  have hL1 := hLq w2.drew rfl
  have hL2 := hLq (w2.alloc (.cells #[.int .i64 p.f0, .int .i64 p.f1, .int .i64 1] 115)) (Below.heap_alloc _ _ _ lmb)
  have hL3 := hLq (w2.alloc (.cells #[.int .i64 p.f0, .int .i64 p.f1, .int .i64 1] 115)).drew (Below.heap_alloc w2 (.cells #[.int .i64 p.f0, .int .i64 p.f1, .int .i64 1] 115) _ lmb)
  have hNl : N < maxLen := by unfold maxLen; omega
  have HV := Aside0.mk hV
  have HLQ := Lib.hid hLq
  have HFD := Lib.hid hfd
  have HVN := Lib.hid hvn
  have HF1 := Lib.hid hf1
  have HBW2 := Aside0.mk (HB0.out.trans (hbw.mono hbs))
  have hbs2 : base ≤ w2.heap.size := Nat.le_trans hbs hbw.size
  clear hvR hV hLq hfd hvn hf1 hbx hb1 hb2 hR1
  go_region_held3 (fun W => W.cell? ⟨pb, 0, none⟩ = some (.map (some mb)) ∧ W.cell? ⟨w.heap.size, 1, none⟩ = some (.int .i64 p.f0) ∧ W.cell? ⟨w.heap.size, 2, none⟩ = some (.int .i64 p.f1))
    (first
      | (go_split_ands; refine ⟨by go_keep, by go_keep, by go_keep⟩)
      | (go_split_ands; refine ⟨?_, ?_, ?_⟩
         · (rw [hg1.cell_far _ (by simp; omega) hvp]; assumption)
         · (rw [hg1.cell_far _ (by simp; omega) hvb]; assumption)
         · (rw [hg1.cell_far _ (by simp; omega) hvb]; assumption))
      | (go_split_ands; refine ⟨?_, ?_, ?_⟩
         · (rw [hgu.cell_far _ (Nat.lt_of_lt_of_le lpb hg1.size) hmp]; assumption)
         · (rw [hgu.cell_far _ (Nat.lt_of_lt_of_le lbx hg1.size) hmb]; assumption)
         · (rw [hgu.cell_far _ (Nat.lt_of_lt_of_le lbx2 hg1.size) hmb]; assumption)))
    ((first
      | (refine Kd.R_append_step k115 (w0 := w0) (W := w2.drew) base (by rfl) (.tmp 14) (.tmp 18) 113 115 (.agg #[(.int .i64 0), (.int .i64 0), (.int .i64 0)]) 24 (by rfl) Tryz.underlying113 info115 (by rfl) (by decide) (by omega) (.slice A5 (g kk).length c5) ((g kk).map cn1) (cn1 p) [.int .i64 p.f0, .int .i64 p.f1, .int .i64 1] (fun _ => True) (fun _ => False) (by rfl) (by rfl) (k115_mkM _ _ _ (cn1 p)) (fun _ hk => hk.elim) (fun _ _ => trivial) ?aO ?aB ?aS ?aL ?_; (case aO => exact HVR.out); (case aB => exact Below.drew HBW2.out); (case aS => exact hbs2); (case aL => (simp; omega)); intro v1 W1 ho hb hg1 hat; obtain ⟨W3, hup, hV3, hgu⟩ := VMap.update (HV.out.blk (W' := W1) ((hg1.block mb lmb hvm).trans rfl)) Tryz.underlying112 hNl KS hksz v1)))
  all_goals
    go_end0
    have hub : ∀ t u, f t = some u → ∃ k, u.ownBlock = some k ∧ k < w2.heap.size := by
      intro t u hu
      obtain ⟨gu, cu, rfl, _, hlt, _⟩ := R_form (HF1.out t u hu).2 (by rw [List.length_map]; exact (HF1.out t u hu).1)
      exact ⟨gu, rfl, hlt⟩
    have hmv : some mb ≠ v1.ownBlock := by
      rcases hat with h | ⟨b, h, h2⟩
      · rw [h]; exact hvm
      · rw [h]; intro e; have := Option.some.inj e; have h2 : w2.heap.size ≤ b := h2; omega
    have hne1 : ∀ t u, f t = some u → t ≠ kk → v1.ownBlock ≠ u.ownBlock := by
      intro t u hu hne e
      obtain ⟨k, hk, hlt⟩ := hub t u hu
      rcases hat with h | ⟨b, h, h2⟩
      · rcases HVN.out t u hu hne with h3 | h3
        · exact h3 (by rw [← e, h])
        · rw [← e, h, h3] at hk; cases hk
      · rw [← e, h] at hk; have := Option.some.inj hk; have h2 : w2.heap.size ≤ b := h2; omega
    rw [hkk]
    refine ⟨rfl, ⟨hbm, fset f kk v1, by rw [hkey] at hV3; exact hV3, ?_, ?_, ?_⟩, ?_, ?_⟩
    · intro s hs
      unfold fset at hs
      split at hs
      · cases hs
      · rename_i h
        rw [gadd_ne h]
        exact hf0 s hs
    · intro s u hu
      unfold fset at hu
      split at hu
      · rename_i h
        rw [Option.some.injEq] at hu
        subst hu
        rw [h, gadd_eq]
        refine ⟨by simp, ?_⟩
        rw [List.map_append]
        exact Kd.R_grown1 ho rfl hgu hmv
      · rename_i h
        rw [gadd_ne h]
        refine ⟨(HF1.out s u hu).1, Kd.R_grown1 (Kd.R_grown2 (show k115.R 115 w2.drew base (fun _ => True) u ((g s).map cn1) from (HF1.out s u hu).2) rfl hg1 ?_) rfl hgu ?_⟩
        · intro k hk e
          rcases HVN.out s u hu h with h3 | h3
          · exact h3 (by rw [hk]; exact e.symm)
          · rw [h3] at hk; cases hk
        · exact R_apart (HF1.out s u hu).2 HMB.out (by intro cs e; cases e)
    · intro s t u v hu hv hne
      unfold fset at hu hv
      split at hu
      · rename_i h
        rw [Option.some.injEq] at hu
        subst hu
        rw [if_neg (by rintro rfl; exact hne h)] at hv
        exact hne1 t v hv (by rintro rfl; exact hne h)
      · rename_i h
        split at hv
        · rename_i h2
          rw [Option.some.injEq] at hv
          subst hv
          exact (hne1 s u hu h).symm
        · exact HFD.out s t u v hu hv hne
    · exact pw_below_grown hb (some mb) (Nat.le_trans hbs2 hg1.size) hgu (by intro k hk; rw [← Option.some.inj hk]; exact hbm)
    · have h1 : OthersKept 115 (some mb) w W1 := ((OthersKept.refl _ _ w).below hbw).drew.grown hg1 (by
        intro k hk
        obtain ⟨_, inner, ⟨_, hv⟩, _⟩ := HVR.out
        rcases hv with ⟨h2, _⟩ | ⟨g2, cap, cur, h2, _, h3, _⟩
        · rw [h2] at hk; cases hk
        · rw [h2] at hk
          have h4 : g2 = k := by simpa [Value.ownBlock] using hk
          subst h4
          exact ⟨_, _, h3⟩)
      exact h1.trans fun k o hk hne _ => (hgu.block k (Array.getElem?_eq_some_iff.1 hk).1 hne).trans hk
end Go.Proofs.YtiamihkfphmohaaGreatDoor.PA
