import Derived.Lib.Hide
import Derived.WalkLawsBesides
import Derived.WalkSpells
import Derived.IntWalk
import Derived.Deep.RegionHeld3
import Derived.Deep.RegionLaw
import Derived.Test.YtiamihkfphmohaaGreatDoorA5
set_option linter.unusedVariables false
set_option linter.unusedSimpArgs false

namespace Go.Proofs.YtiamihkfphmohaaGreatDoor.PA
open Go.RowKit Go.Proofs.YtiamihkfphmohaaGreatDoorW.PrintWords Go.Proofs.YtiamihkfphmohaaGreatDoorW.PrintLast Go.Proofs.YtiamihkfphmohaaGreatDoorW.PrintMore

set_option maxHeartbeats 600000 in
set_option maxRecDepth 100000 in
theorem c101 (A : Option Addr) (n c : Nat) (l : List (List S82)) (w : World) (hr : (Kd.slice 82 k82).C w A n l) (hl : l.length < 20) (hrows : ∀ x ∈ l, x.length ≤ 1000000) :
    Calls Tryz.prog 101 #[.slice A n c] w (SortRes l w) := by
  have HR := Aside0.mk hr
  have HX := Aside0.mk hrows
  clear hr hrows
  go_enter Tryz.func101, Tryz.ntmps101
  go_wp2_with fail
  refine (c139 _ _ _ l _ HR.out hl HX.out).mono ?_
  rintro e w1 ⟨v, ys, rfl, hp, hs, hN, hb⟩
  have R := Aside0.mk (And.intro hp (And.intro hs (And.intro hN hb)))
  clear hp hs hN hb
  go_wp2
  go_ret
  exact ⟨v, ys, rfl, R.out.1, R.out.2.1, R.out.2.2.1, R.out.2.2.2⟩
/-- The rows of the facts that hold at an instant. -/
def rowsAt (l : List S58) (t : Int) : List (List S82) := (l.filter (fun x => pc x.f1 t)).map S58.f0
theorem rowsAt_step {l : List S58} {t : Int} {k : Nat} (h : k < l.length) : rowsAt (l.take (k + 1)) t = rowsAt (l.take k) t ++ (if pc (rd_T58 l k).f1 t = true then [(rd_T58 l k).f0] else []) := by
  have e : l[k] = rd_T58 l k := by simp [rd_T58, h]
  rw [take_step h, rowsAt, List.filter_append, e]
  by_cases hq : pc (rd_T58 l k).f1 t = true <;> simp [rowsAt, hq]
theorem rowsAt_len (l : List S58) (t : Int) : (rowsAt l t).length ≤ l.length := by
  unfold rowsAt
  rw [List.length_map]
  exact List.length_filter_le _ _
theorem rowsAt_mem {l : List S58} {t : Int} {r : List S82} (h : r ∈ rowsAt l t) : ∃ x ∈ l, pc x.f1 t = true ∧ x.f0 = r := by
  unfold rowsAt at h
  obtain ⟨x, hx, rfl⟩ := List.mem_map.1 h
  have := List.mem_filter.1 hx
  exact ⟨x, this.1, this.2, rfl⟩
theorem FK_came {W : World} {ok : Nat → Prop} {A : Option Addr} {c : Nat} {x : List S82} (hle : x.length ≤ c) (h : Kd.F k82 W ok A x.length x) : Kd.FK kRow W ok x [.slice A x.length c] := fun W' hW => ⟨A, c, rfl, hle, h W' hW⟩
set_option maxHeartbeats 1000000 in
set_option maxRecDepth 100000 in
theorem c59 (A : Option Addr) (n c : Nat) (l : List S58) (t : Int) (w : World) (hr : k58.C w A n l) (hl : l.length < 20) (hrows : ∀ x ∈ l, x.f0.length ≤ 1000000) :
    Calls Tryz.prog 59 #[.slice A n c, .int .i64 t] w (SortRes (rowsAt l t) w) := by
  obtain rfl := hr.1
  have HR := Aside0.mk hr
  have HX := Aside0.mk hrows
  clear hr hrows
  go_enter Tryz.func59, Tryz.ntmps59
  go_wp2
  have B0 := Aside0.mk (Below.refl w.heap.size w)
  go_loopw [5, 7, 10] (fun v xb i wr => ∃ k : Nat, i = .int .i64 k ∧ k ≤ l.length ∧ Aside0 (Below w.heap.size w wr) ∧ Aside0 (Kd.N kRow 34 wr w.heap.size (fun _ => True) v (rowsAt (l.take k) t))) (fun _ _ i _ => l.length - (intOf i).toNat)
  case atStart => exact ⟨0, rfl, Nat.zero_le _, B0, ⟨Kd.N_nil _ _ _ _ _⟩⟩
  case round =>
    clear B0
    obtain ⟨k, rfl, hk', HB, HO⟩ := hrel
    by_cases h1 : k < l.length
    · have hst := Lib.hid (rowsAt_step (t := t) h1)
      obtain ⟨xa, A3, c3, rfl, x0, x1, x2, hle, hrow⟩ := at_T58 HR.out k (by omega) (by omega)
      rw [Int.toNat_natCast] at x0 x1 x2
      replace x0 := pw_cell_below HB.out x0
      replace x1 := pw_cell_below HB.out x1
      replace x2 := pw_cell_below HB.out x2
      have xbl := World.block_lt_of_cell? _ _ x0
      have HF := Aside0.mk (Kd.C_F k82_heap hrow)
      clear hrow
      have hk1 : (0 : Int) ≤ k := by omega
      have hk2 : (k : Int) < l.length := by omega
      go_wp2_with fail
      refine (c153 _ _ _ _).mono ?_
      rintro e w2 ⟨rfl, hb8⟩
      have hbb : (wr.alloc (.cells #[.slice A3 (rd_T58 l k).f0.length c3, .int .i64 (rd_T58 l k).f1.f0, .int .i64 (rd_T58 l k).f1.f1] 58)).heap[wr.heap.size]? = some (.cells #[.slice A3 (rd_T58 l k).f0.length c3, .int .i64 (rd_T58 l k).f1.f0, .int .i64 (rd_T58 l k).f1.f1] 58 (0, 0)) := blk_new _ _
      have z9 := blk_below hbb hb8
      have z0 : w2.cell? ⟨wr.heap.size, 0, none⟩ = some (.slice A3 (rd_T58 l k).f0.length c3) := by rw [blk_cell z9]; rfl
      have HB2 := Aside0.mk (below_step HB.out (bel1 hb8))
      have HO2 := Aside0.mk (Kd.N_below HO.out (bel1 hb8))
      have HF2 := Aside0.mk (Kd.F_below HF.out (below_step HB.out (bel1 hb8)))
      generalize wr.heap.size = gb at *
      clear HB HO HF hb8 hbb z9 x0 x1 x2 xbl
      by_cases hq : pc (rd_T58 l k).f1 t = true
      · have hq' : pc ⟨(rd_T58 l k).f1.f0, (rd_T58 l k).f1.f1⟩ t = true := hq
        go_wp2_with (at_builtin; refine Kd.N_append kRow (w0 := w) w.heap.size rfl (.tmp 18) (.tmp 21) 46 34 (.slice none 0 0) 24 rfl Tryz.underlying46 info34 rfl (by decide) (by omega) u5 (rowsAt (l.take k) t) (rd_T58 l k).f0 [.slice A3 (rd_T58 l k).f0.length c3] (fun _ => True) (fun k_ => k_ < w.heap.size) rfl rfl (FK_came hle HF2.out) (fun k_ hk => ⟨trivial, fun e_ => by have := Kd.N_base HO2.out k_ e_.symm; omega⟩) (fun _ _ => trivial) ?aO ?aB ?aS ?aL ?_; (case aO => exact HO2.out); (case aB => exact HB2.out); (case aS => exact (below_size HB2.out)); (case aL => exact (by have := rowsAt_len (l.take k) t; rw [List.length_take] at this; omega)); intro v1 w1 ho hb hg hat; skip)
        exact ⟨⟨k + 1, by go_num, h1, ⟨hb⟩, ⟨by rw [hst.out, if_pos hq]; exact ho⟩⟩, by simp [intOf]; omega⟩
      · have hq' : pc ⟨(rd_T58 l k).f1.f0, (rd_T58 l k).f1.f1⟩ t = false := by simpa using hq
        go_wp2
        exact ⟨⟨k + 1, by go_num, h1, HB2, ⟨by rw [hst.out, if_neg hq, List.append_nil]; exact HO2.out⟩⟩, by simp [intOf]; omega⟩
    · have htk : l.take k = l := List.take_of_length_le (by omega)
      rw [htk] at HO
      obtain ⟨A5, c5, rfl, hc5, hC5⟩ := Kd.N_reads HO.out
      have hlen := rowsAt_len l t
      go_wp2_with fail
      refine (c101 _ _ _ (rowsAt l t) _ hC5 (by omega) (fun r hr => by obtain ⟨x, hx, _, rfl⟩ := rowsAt_mem hr; exact HX.out x hx)).mono ?_
      rintro e w1 ⟨v, ys, rfl, hp, hs, hN, hb⟩
      have R := Aside0.mk (And.intro hp (And.intro hs (And.intro (Kd.N_lower hN HB.out.size) (bthen HB.out hb))))
      clear hp hs hN hb
      go_wp2
      go_ret
      exact ⟨v, ys, rfl, R.out.1, R.out.2.1, R.out.2.2.1, R.out.2.2.2⟩
end Go.Proofs.YtiamihkfphmohaaGreatDoor.PA

namespace Go.Proofs.YtiamihkfphmohaaGreatDoor.PA
open Go.RowKit Go.Proofs.YtiamihkfphmohaaGreatDoorW.PrintWords Go.Proofs.YtiamihkfphmohaaGreatDoorW.PrintLast Go.Proofs.YtiamihkfphmohaaGreatDoorW.PrintMore

/-- The first of the rows with a key that hold at an instant, in order. -/
def FindRes (rows : List (List S82)) (w : World) (en : Ending) (w' : World) : Prop :=
  ∃ A c ys, en = .returned (.tuple #[.slice A (rd_L3 ys 0).length c, .bool (decide (ys ≠ ([] : List (List S82))))]) ∧ ys.Perm rows ∧ ys.Pairwise (fun a b => rcmp a b ≤ 0) ∧ k82.C w' A (rd_L3 ys 0).length (rd_L3 ys 0) ∧ (rd_L3 ys 0).length ≤ c ∧ Below w.heap.size w w'
theorem withS_len (cols : List Int) (l : List S58) (key : List S82) : (withS cols l key).length ≤ l.length := List.length_filter_le _ _
set_option maxHeartbeats 1000000 in
set_option maxRecDepth 100000 in
theorem c35 (nm : ByteArray) (vc vf vk : Value) (A2 : Option Addr) (n2 c2 : Nat) (cols : List Int) (A : Option Addr) (n c : Nat) (l : List S58) (A4 : Option Addr) (n4 c4 : Nat) (key : List S82) (t : Int) (w : World)
    (hc : (Kd.int .i64).C w A2 n2 cols) (hcl : cols.length ≤ 1000000) (hr : k58.C w A n l) (hl : l.length < 20) (hk : k82.C w A4 n4 key) (hrows : ∀ x ∈ l, x.f0.length ≤ 1000000) :
    Calls Tryz.prog 20 #[.agg #[.string nm, vc, .slice A2 n2 c2, vf, vk], .slice A n c, .slice A4 n4 c4, .int .i64 t] w (FindRes (rowsAt (withS cols l key) t) w) := by
  obtain rfl := hr.1
  obtain rfl := hc.1
  obtain rfl := hk.1
  have HR := Aside0.mk hr
  have HC := Aside0.mk hc
  have HK := Aside0.mk hk
  have HX := Aside0.mk hrows
  clear hr hc hk hrows
  go_enter Tryz.func20, Tryz.ntmps20
  have hb0 : Below w.heap.size w (w.alloc (.cells #[.string nm, vc, .slice A2 cols.length c2, vf, vk] 27)) := below_alloc (Below.refl _ _) _
  go_wp2_with fail
  refine (c116 nm vc vf vk A2 _ c2 cols A _ c l A4 _ c4 key _ (Kd.C_below HC.out hb0) hcl (Kd.C_below HR.out hb0) (by omega) (Kd.C_below HK.out hb0)).mono ?_
  rintro e w1 ⟨v, rfl, hN, hb1⟩
  obtain ⟨A5, c5, rfl, hc5, hC5⟩ := Kd.N_reads hN
  have hlen := withS_len cols l key
  have HB := Aside0.mk (bel1 hb1)
  have HC5 := Aside0.mk hC5
  clear hN hb1 hC5 hb0
  go_wp2_with fail
  refine (c59 _ _ _ (withS cols l key) t _ HC5.out (by omega) (fun x hx => HX.out x (List.mem_filter.1 hx).1)).mono ?_
  rintro e w2 ⟨v, ys, rfl, hp, hs, hN, hb⟩
  obtain ⟨A6, c6, rfl, hc6, hC6⟩ := Kd.N_reads hN
  have HB2 := Aside0.mk (bthen HB.out hb)
  have HP := Aside0.mk (And.intro hp hs)
  have HC6 := Aside0.mk hC6
  clear hp hs hN hb HB hC6
  by_cases h0 : ys.length = 0
  · obtain rfl : ys = [] := List.eq_nil_of_length_eq_zero h0
    have h1 : ((([] : List (List S82)).length : Int) == 0) = true := rfl
    go_wp2
    go_ret2
    exact ⟨none, 0, [], rfl, HP.out.1, HP.out.2, Kd.C_nil _ _, Nat.le_refl _, HB2.out⟩
  · have h1 : ((ys.length : Int) == 0) = false := by rw [beq_eq_false_iff_ne]; omega
    have h2 : ((0 : Int) < (ys.length : Int)) := by omega
    obtain ⟨xa, A3, c3, rfl, x0, hle, hrow⟩ := at_L3 HC6.out 0 (by omega) (by omega)
    replace x0 : w2.cell? xa = some (.slice A3 (rd_L3 ys 0).length c3) := by rw [show (0 : Int).toNat = 0 from rfl, show xa.add 0 = xa from by simp [Addr.add]] at x0; exact x0
    have hne : decide (ys ≠ ([] : List (List S82))) = true := decide_eq_true (by rintro rfl; exact h0 rfl)
    have HW := Aside0.mk hrow
    have HNE := Lib.hid hne
    clear hrow hne
    go_wp2

    go_ret2
    exact ⟨A3, c3, ys, (congrArg (fun b => Ending.returned (.tuple #[.slice A3 (rd_L3 ys 0).length c3, .bool b])) HNE.out.symm), HP.out.1, HP.out.2, HW.out, hle, HB2.out⟩
end Go.Proofs.YtiamihkfphmohaaGreatDoor.PA

namespace Go.Proofs.YtiamihkfphmohaaGreatDoor.PA
open Go.RowKit Go.Proofs.YtiamihkfphmohaaGreatDoorW.PrintWords Go.Proofs.YtiamihkfphmohaaGreatDoorW.PrintLast Go.Proofs.YtiamihkfphmohaaGreatDoorW.PrintMore

/-! ### The encoding tells rows apart -/
def unD (l : List UInt8) : Nat := l.foldl (fun a d => a * 10 + (d.toNat - 48)) 0
theorem dec_ok (u : Nat) : unD (Lib.decDigits u) = u ∧ ∀ d ∈ Lib.decDigits u, 48 ≤ d.toNat ∧ d.toNat ≤ 57 := by
  induction u using Nat.strongRecOn with
  | _ u ih =>
    rw [Lib.decDigits]
    split
    · rename_i h
      have : (UInt8.ofNat (48 + u)).toNat = 48 + u := by simp [UInt8.toNat_ofNat']; omega
      refine ⟨by simp only [unD, List.foldl_cons, List.foldl_nil, this]; omega, fun d hd => ?_⟩
      rw [List.mem_singleton] at hd
      subst hd
      omega
    · rename_i h
      have h1 := ih (u / 10) (by omega)
      have : (UInt8.ofNat (48 + u % 10)).toNat = 48 + u % 10 := by simp [UInt8.toNat_ofNat']; omega
      refine ⟨?_, fun d hd => ?_⟩
      · have h2 := h1.1
        unfold unD at h2 ⊢
        rw [List.foldl_append, h2]
        simp only [List.foldl_cons, List.foldl_nil, this]
        omega
      · rcases List.mem_append.1 hd with hd | hd
        · exact h1.2 d hd
        · rw [List.mem_singleton] at hd
          subst hd
          omega
def unI (l : List UInt8) : Int := match l with
  | [] => 0
  | d :: r => if d = 45 then -(unD r : Int) else (unD (d :: r) : Int)
theorem dec_ne (u : Nat) : Lib.decDigits u ≠ [] := by
  intro e
  have := Lib.decDigits_length u
  rw [e] at this
  have h2 : 0 < Lib.nDigits u := by
    rw [Lib.nDigits]
    split <;> omega
  simp at this
  omega
theorem itoa_ok (n : Int) : unI (Lib.itoa n) = n ∧ ∀ d ∈ Lib.itoa n, d ≠ 32 := by
  unfold Lib.itoa
  split
  · have h := dec_ok n.natAbs
    refine ⟨?_, fun d hd => ?_⟩
    · simp only [unI, if_true, h.1]
      omega
    · rcases List.mem_cons.1 hd with rfl | hd
      · decide
      · rintro rfl
        have := (h.2 _ hd).1
        revert this
        decide
  · have h := dec_ok n.toNat
    have hne := dec_ne n.toNat
    refine ⟨?_, fun d hd => ?_⟩
    · cases hq : Lib.decDigits n.toNat with
      | nil => exact absurd hq hne
      | cons d r =>
        rw [hq] at h
        have : d ≠ 45 := by
          rintro rfl
          have := (h.2 45 (by simp)).1
          revert this
          decide
        simp only [unI, if_neg this, h.1]
        omega
    · rintro rfl
      have := (h.2 _ hd).1
      revert this
      decide
theorem word_inj {a b r s : List UInt8} (ha : ∀ d ∈ a, d ≠ 32) (hb : ∀ d ∈ b, d ≠ 32) (h : a ++ 32 :: r = b ++ 32 :: s) : a = b ∧ r = s := by
  induction a generalizing b with
  | nil =>
    cases b with
    | nil => simpa using h
    | cons y b =>
      simp only [List.nil_append, List.cons_append, List.cons.injEq] at h
      exact absurd h.1.symm (hb y (by simp))
  | cons x a ih =>
    cases b with
    | nil =>
      simp only [List.nil_append, List.cons_append, List.cons.injEq] at h
      exact absurd h.1 (ha x (by simp))
    | cons y b =>
      simp only [List.cons_append, List.cons.injEq] at h
      have := ih (fun d hd => ha d (by simp [hd])) (fun d hd => hb d (by simp [hd])) h.2
      exact ⟨by rw [h.1, this.1], this.2⟩
theorem num_inj {n m : Int} {r s : List UInt8} (h : Lib.itoa n ++ 32 :: r = Lib.itoa m ++ 32 :: s) : n = m ∧ r = s := by
  have h1 := word_inj (itoa_ok n).2 (itoa_ok m).2 h
  exact ⟨by rw [← (itoa_ok n).1, h1.1, (itoa_ok m).1], h1.2⟩
theorem encV_eq (v : S82) (r : List UInt8) : encV v ++ r = Lib.itoa v.f0 ++ 32 :: (Lib.itoa v.f1 ++ 32 :: (Lib.itoa (v.f2.size : Int) ++ 32 :: (v.f2.data.toList ++ r))) := by
  simp [encV, encI, i3]
theorem encV_inj {v u : S82} {r s : List UInt8} (h : encV v ++ r = encV u ++ s) : v = u ∧ r = s := by
  rw [encV_eq, encV_eq] at h
  have h1 := num_inj h
  have h2 := num_inj h1.2
  have h3 := num_inj h2.2
  have h4 : v.f2.data.toList.length = u.f2.data.toList.length := by
    have := h3.1
    simp only [Array.length_toList]
    have e1 : v.f2.data.size = v.f2.size := rfl
    have e2 : u.f2.data.size = u.f2.size := rfl
    omega
  have h5 := List.append_inj h3.2 h4
  obtain ⟨a, b, ⟨⟨c⟩⟩⟩ := v
  obtain ⟨a', b', ⟨⟨c'⟩⟩⟩ := u
  simp only at h1 h2 h5
  obtain ⟨rfl, _⟩ := h1
  obtain ⟨rfl, _⟩ := h2
  obtain ⟨rfl, hr⟩ := h5
  exact ⟨rfl, hr⟩
theorem encV_ne (v : S82) : encV v ≠ [] := by
  intro h
  have := encV_eq v []
  rw [h] at this
  have h2 := congrArg List.length this
  simp at h2
theorem encK_inj : ∀ {a b : List S82}, encK a = encK b → a = b
  | [], [], _ => rfl
  | [], u :: b, h => by
    simp only [encK, List.flatMap_nil, List.flatMap_cons] at h
    exact absurd (List.append_eq_nil_iff.1 h.symm).1 (encV_ne u)
  | v :: a, [], h => by
    simp only [encK, List.flatMap_nil, List.flatMap_cons] at h
    exact absurd (List.append_eq_nil_iff.1 h).1 (encV_ne v)
  | v :: a, u :: b, h => by
    simp only [encK, List.flatMap_cons] at h
    have h1 := encV_inj h
    rw [h1.1, encK_inj (a := a) (b := b) h1.2]
end Go.Proofs.YtiamihkfphmohaaGreatDoor.PA

namespace Go.Proofs.YtiamihkfphmohaaGreatDoor.PA
open Go.RowKit Go.Proofs.YtiamihkfphmohaaGreatDoorW.PrintWords Go.Proofs.YtiamihkfphmohaaGreatDoorW.PrintLast Go.Proofs.YtiamihkfphmohaaGreatDoorW.PrintMore

theorem info159 : (Tryz.prog.info? 159).map (fun i => (i.zero, i.size, i.bytes)) = some (some (.agg #[(.slice none 0 0), (.slice none 0 0)]), 2, 48) := by kernel_rfl
/-! #### struct type 159: a row with its periods -/
structure S159 where
  f0 : (List S82)
  f1 : (List S50)
def z159 : S159 := ⟨([] : List S82), ([] : List S50)⟩
def k159 : Kd S159 := Kd.iso (Kd.pair (Kd.slice 82 k82) (Kd.slice 50 k50)) (fun x : S159 => (x.f0, x.f1))
theorem k159_heap : Kd.Heap k159 := Kd.heap_iso _ (Kd.heap_pair (Kd.heap_slice 82 k82_heap) (Kd.heap_slice 50 k50_heap))
theorem k159_open {w : World} {x : S159} {cs : List Value} (h : k159.K w x cs) : ∃ A0 c0 A1 c1, cs = [.slice A0 x.f0.length c0, .slice A1 x.f1.length c1] ∧ x.f0.length ≤ c0 ∧ k82.C w A0 x.f0.length x.f0 ∧ x.f1.length ≤ c1 ∧ k50.C w A1 x.f1.length x.f1 := by
  obtain ⟨_, _, rfl, ⟨A0, c0, rfl, l0, g0⟩, ⟨A1, c1, rfl, l1, g1⟩⟩ := h
  exact ⟨A0, c0, A1, c1, rfl, l0, g0, l1, g1⟩
theorem k159_openM {w : World} {base : Nat} {ok : Nat → Prop} {x : S159} {cs : List Value} (h : k159.M w base ok x cs) : ∃ v0 v1, cs = [v0, v1] ∧ k82.R 82 w base ok v0 x.f0 ∧ k50.R 50 w base ok v1 x.f1 := by
  obtain ⟨_, _, rfl, ⟨v0, rfl, g0⟩, ⟨v1, rfl, g1⟩⟩ := h
  exact ⟨v0, v1, rfl, g0, g1⟩
theorem k159_mk (w : World) (x : S159) {A0 : Option Addr} {c0 : Nat} (l0 : x.f0.length ≤ c0) (g0 : k82.C w A0 x.f0.length x.f0) {A1 : Option Addr} {c1 : Nat} (l1 : x.f1.length ≤ c1) (g1 : k50.C w A1 x.f1.length x.f1) : k159.K w x [.slice A0 x.f0.length c0, .slice A1 x.f1.length c1] := ⟨[.slice A0 x.f0.length c0], [.slice A1 x.f1.length c1], rfl, ⟨A0, c0, rfl, l0, g0⟩, ⟨A1, c1, rfl, l1, g1⟩⟩
theorem k159_mkM (w : World) (base : Nat) (ok : Nat → Prop) (x : S159) {v0 : Value} (g0 : k82.R 82 w base ok v0 x.f0) {v1 : Value} (g1 : k50.R 50 w base ok v1 x.f1) : k159.M w base ok x [v0, v1] := ⟨[v0], [v1], rfl, ⟨v0, rfl, g0⟩, ⟨v1, rfl, g1⟩⟩
theorem k159_openF {W : World} {ok : Nat → Prop} {x : S159} {cs : List Value} (h : Kd.FK k159 W ok x cs) : ∃ A0 c0 A1 c1, cs = [.slice A0 x.f0.length c0, .slice A1 x.f1.length c1] ∧ x.f0.length ≤ c0 ∧ Kd.F k82 W ok A0 x.f0.length x.f0 ∧ x.f1.length ≤ c1 ∧ Kd.F k50 W ok A1 x.f1.length x.f1 := by
  obtain ⟨A0, c0, A1, c1, rfl, l0, _, l1, _⟩ := k159_open (Kd.FK_now h)
  exact ⟨A0, c0, A1, c1, rfl, l0, (fun W' hW => by obtain ⟨A0_, c0_, A1_, c1_, he, l0_, g0_, l1_, g1_⟩ := k159_open (h W' hW); injection (Option.some.inj (show some (Value.slice A0 x.f0.length c0) = some (Value.slice A0_ x.f0.length c0_) from congrArg (fun l => l[0]?) he)) with ha_ _ _; rw [ha_]; exact g0_), l1, (fun W' hW => by obtain ⟨A0_, c0_, A1_, c1_, he, l0_, g0_, l1_, g1_⟩ := k159_open (h W' hW); injection (Option.some.inj (show some (Value.slice A1 x.f1.length c1) = some (Value.slice A1_ x.f1.length c1_) from congrArg (fun l => l[1]?) he)) with ha_ _ _; rw [ha_]; exact g1_)⟩
theorem k159_mkF (W : World) (ok : Nat → Prop) (x : S159) {A0 : Option Addr} {c0 : Nat} (l0 : x.f0.length ≤ c0) (g0 : Kd.F k82 W ok A0 x.f0.length x.f0) {A1 : Option Addr} {c1 : Nat} (l1 : x.f1.length ≤ c1) (g1 : Kd.F k50 W ok A1 x.f1.length x.f1) : Kd.FK k159 W ok x [.slice A0 x.f0.length c0, .slice A1 x.f1.length c1] := fun W2 hW => k159_mk W2 x l0 (g0 W2 hW) l1 (g1 W2 hW)
def rd_T159 (xs : List S159) (i : Int) : S159 := xs.getD i.toNat z159
theorem at_T159 {w : World} {A : Option Addr} {n : Nat} {xs : List S159} (h : Kd.C k159 w A n xs) (i : Int) (h0 : 0 ≤ i) (h1 : i < n) : ∃ ad A0 c0 A1 c1, A = some ad ∧ w.cell? (ad.add (i.toNat * 2)) = some (.slice A0 (rd_T159 xs i).f0.length c0) ∧ w.cell? ⟨(ad.add (i.toNat * 2)).block, (ad.add (i.toNat * 2)).off + 1, none⟩ = some (.slice A1 (rd_T159 xs i).f1.length c1) ∧ (rd_T159 xs i).f0.length ≤ c0 ∧ k82.C w A0 (rd_T159 xs i).f0.length (rd_T159 xs i).f0 ∧ (rd_T159 xs i).f1.length ≤ c1 ∧ k50.C w A1 (rd_T159 xs i).f1.length (rd_T159 xs i).f1 := by
  obtain ⟨ad, c, e, _, hK, hc0⟩ := Kd.C_get h z159 i h0 h1
  have hc : ∀ j u, c[j]? = some u → w.cell? (ad.add (i.toNat * 2 + j)) = some u := hc0
  obtain ⟨A0, c0, A1, c1, rfl, l0, g0, l1, g1⟩ := k159_open hK
  exact ⟨ad, A0, c0, A1, c1, e, hc 0 _ rfl, by rw [← add_field _ _ 1 (by omega)]; exact hc 1 _ rfl, l0, g0, l1, g1⟩


/-! ### A cell of a row of cells is written -/
theorem raw_set {sz : Nat} {e base g n cap : Nat} {ok : Nat → Prop} {W : World} {rws : List (List Value)} (HO : (Kd.raw sz).R e W base ok (.slice (some ⟨g, 0, none⟩) n cap) rws) (i j : Nat) (r : List Value) (hr : rws[i]? = some r) (hj : j < sz) (u : Value) (hu : u.oneCell' = true) :
    (Kd.raw sz).R e (W.setCell ⟨g, i * sz + j, none⟩ u) base ok (.slice (some ⟨g, 0, none⟩) n cap) (rws.set i (r.set j u)) ∧ W.grownBy (W.setCell ⟨g, i * sz + j, none⟩ u) (some g) := by
  have hn := (Kd.R_reads' HO).1
  obtain ⟨hi, hri⟩ := List.getElem?_eq_some_iff.1 hr
  obtain ⟨c, hcl, hM, hcc, hfr⟩ := Kd.R_elem HO [] (i : Int) (by omega) (by omega)
  simp only [Int.toNat_natCast] at hM hcc
  rw [List.getD_eq_getElem?_getD, hr] at hM
  obtain ⟨e1, hl, h1⟩ := hM
  obtain rfl : r = c := by simpa using e1.symm
  have h := Kd.R_seg (okp := fun _ => False) (d := Kd.raw sz) HO (i : Int) (by omega) (by omega) (c := r) (seg := [u]) (j := j) (x' := r.set j u) hl (by simpa using hcc) (by simp [Kd.raw]; omega) ?_ (fun _ hk => hk.elim)
  · simpa [World.setCells, Kd.raw] using h
  · have e2 : r.take j ++ [u] ++ r.drop (j + [u].length) = r.set j u := by
      rw [List.set_eq_take_append_cons_drop, if_pos (by rw [hl]; exact hj)]
      simp
    show (_ = _ ∧ _ ∧ _)
    rw [e2]
    refine ⟨rfl, by simpa using hl, fun q hq => ?_⟩
    rcases List.mem_or_eq_of_mem_set hq with h | h
    · exact h1 q h
    · rw [h]; exact hu
end Go.Proofs.YtiamihkfphmohaaGreatDoor.PA

namespace Go.Proofs.YtiamihkfphmohaaGreatDoor.PA
open Go.RowKit Go.Proofs.YtiamihkfphmohaaGreatDoorW.PrintWords Go.Proofs.YtiamihkfphmohaaGreatDoorW.PrintLast Go.Proofs.YtiamihkfphmohaaGreatDoorW.PrintMore

/-! ### Rows with their periods, plainly -/
/-- The valid periods of a row. -/
def perR (l : List S58) (r : List S82) : List S50 := (l.filter (fun x => pv x.f1 && req x.f0 r)).map S58.f1
theorem perR_yes {l : List S58} {x : S58} {r : List S82} (h : pv x.f1 = true ∧ x.f0 = r) : perR (l ++ [x]) r = perR l r ++ [x.f1] := by
  unfold perR
  rw [List.filter_append, List.map_append]
  congr 1
  simp [h.1, req_iff.2 h.2]
theorem perR_no {l : List S58} {x : S58} {r : List S82} (h : ¬ (pv x.f1 = true ∧ x.f0 = r)) : perR (l ++ [x]) r = perR l r := by
  unfold perR
  rw [List.filter_append, List.map_append]
  by_cases h1 : pv x.f1 = true
  · have : req x.f0 r = false := by
      rw [Bool.eq_false_iff]
      exact fun h2 => h ⟨h1, req_iff.1 h2⟩
    simp [this]
  · simp [h1]
theorem perR_len (l : List S58) (r : List S82) : (perR l r).length ≤ l.length := by
  unfold perR
  rw [List.length_map]
  exact List.length_filter_le _ _
/-- The rows so far, each with its periods. -/
def GInv (l : List S58) (gs : List S159) : Prop :=
  (gs.map S159.f0).Nodup ∧ (∀ x ∈ gs, x.f1 = perR l x.f0 ∧ x.f1 ≠ []) ∧ ∀ x ∈ l, pv x.f1 = true → ∃ y ∈ gs, y.f0 = x.f0
theorem GInv.nil : GInv [] [] := ⟨List.nodup_nil, by simp, by simp⟩
theorem GInv.skip {l : List S58} {gs : List S159} {x : S58} (h : GInv l gs) (hp : ¬ pv x.f1 = true) : GInv (l ++ [x]) gs := by
  refine ⟨h.1, fun y hy => ?_, fun y hy hv => ?_⟩
  · rw [perR_no (fun h => hp h.1)]
    exact h.2.1 y hy
  · rcases List.mem_append.1 hy with hy | hy
    · exact h.2.2 y hy hv
    · rw [List.mem_singleton] at hy
      subst hy
      exact absurd hv hp
theorem GInv.new {l : List S58} {gs : List S159} {x : S58} (h : GInv l gs) (hp : pv x.f1 = true) (hn : ∀ y ∈ gs, y.f0 ≠ x.f0) : GInv (l ++ [x]) (gs ++ [⟨x.f0, [x.f1]⟩]) := by
  have h0 : perR l x.f0 = [] := by
    unfold perR
    rw [List.map_eq_nil_iff, List.filter_eq_nil_iff]
    intro y hy hq
    rw [Bool.and_eq_true] at hq
    obtain ⟨z, hz, he⟩ := h.2.2 y hy hq.1
    exact hn z hz (by rw [he]; exact req_iff.1 hq.2)
  refine ⟨?_, fun y hy => ?_, fun y hy hv => ?_⟩
  · rw [List.map_append]
    refine List.nodup_append.2 ⟨h.1, by simp, ?_⟩
    intro a ha b hb
    simp only [List.map_cons, List.map_nil, List.mem_singleton] at hb
    obtain ⟨z, hz, rfl⟩ := List.mem_map.1 ha
    rw [hb]
    exact hn z hz
  · rcases List.mem_append.1 hy with hy | hy
    · rw [perR_no (fun e => hn y hy e.2.symm)]
      exact h.2.1 y hy
    · rw [List.mem_singleton] at hy
      subst hy
      rw [perR_yes ⟨hp, rfl⟩, h0]
      exact ⟨rfl, by simp⟩
  · rcases List.mem_append.1 hy with hy | hy
    · obtain ⟨z, hz, he⟩ := h.2.2 y hy hv
      exact ⟨z, List.mem_append_left _ hz, he⟩
    · rw [List.mem_singleton] at hy
      subst hy
      exact ⟨_, List.mem_append_right _ (List.mem_singleton.2 rfl), rfl⟩
theorem GInv.old {l : List S58} {gs : List S159} {x : S58} {i : Nat} {y : S159} (h : GInv l gs) (hp : pv x.f1 = true) (hi : gs[i]? = some y) (he : y.f0 = x.f0) : GInv (l ++ [x]) (gs.set i ⟨y.f0, y.f1 ++ [x.f1]⟩) := by
  obtain ⟨hil, hiy⟩ := List.getElem?_eq_some_iff.1 hi
  have hmap : (gs.set i ⟨y.f0, y.f1 ++ [x.f1]⟩).map S159.f0 = gs.map S159.f0 := by
    rw [List.map_set]
    apply List.ext_getElem?
    intro j
    by_cases hj : i = j
    · subst hj
      rw [List.getElem?_set_self (by simpa using hil), List.getElem?_map, hi]
      rfl
    · rw [List.getElem?_set_ne hj]
  refine ⟨by rw [hmap]; exact h.1, fun z hz => ?_, fun z hz hv => ?_⟩
  · obtain ⟨j, hj⟩ := List.mem_iff_getElem?.1 hz
    by_cases hij : i = j
    · subst hij
      rw [List.getElem?_set_self hil] at hj
      obtain rfl := Option.some.inj hj
      have := h.2.1 y (List.mem_of_getElem? hi)
      simp only
      rw [perR_yes ⟨hp, he.symm⟩, ← this.1]
      exact ⟨rfl, by simp⟩
    · rw [List.getElem?_set_ne hij] at hj
      have hzg := List.mem_of_getElem? hj
      have hne : z.f0 ≠ x.f0 := by
        intro e
        have h1 : (gs.map S159.f0)[i]? = some y.f0 := by rw [List.getElem?_map, hi]; rfl
        have h2 : (gs.map S159.f0)[j]? = some z.f0 := by rw [List.getElem?_map, hj]; rfl
        rw [he, ← e] at h1
        exact hij ((List.getElem?_inj (by simpa using hil) h.1).1 (h1.trans h2.symm))
      rw [perR_no (fun e => hne e.2.symm)]
      exact h.2.1 z hzg
  · rcases List.mem_append.1 hz with hz | hz
    · obtain ⟨u, hu, hue⟩ := h.2.2 z hz hv
      have : z.f0 ∈ (gs.set i ⟨y.f0, y.f1 ++ [x.f1]⟩).map S159.f0 := by rw [hmap, ← hue]; exact List.mem_map_of_mem hu
      obtain ⟨q, hq, hqe⟩ := List.mem_map.1 this
      exact ⟨q, hq, hqe⟩
    · rw [List.mem_singleton] at hz
      subst hz
      have : z.f0 ∈ (gs.set i ⟨y.f0, y.f1 ++ [z.f1]⟩).map S159.f0 := by rw [hmap, ← he]; exact List.mem_map_of_mem (List.mem_of_getElem? hi)
      obtain ⟨q, hq, hqe⟩ := List.mem_map.1 this
      exact ⟨q, hq, hqe⟩
/-- The rows in order. -/
def GOK (l : List S58) (gs : List S159) : Prop := GInv l gs ∧ gs.Pairwise (fun a b => rcmp a.f0 b.f0 < 0)
theorem GInv.sorted {l : List S58} {gs ys : List S159} (h : GInv l gs) (hp : ys.Perm gs) (hs : ys.Pairwise (fun a b => rcmp a.f0 b.f0 ≤ 0)) : GOK l ys := by
  have hnd : (ys.map S159.f0).Nodup := ((hp.map S159.f0).nodup_iff).2 h.1
  refine ⟨⟨hnd, fun x hx => h.2.1 x (hp.mem_iff.1 hx), fun x hx hv => ?_⟩, ?_⟩
  · obtain ⟨y, hy, he⟩ := h.2.2 x hx hv
    exact ⟨y, hp.mem_iff.2 hy, he⟩
  · have hnd2 : ys.Pairwise (fun a b => a.f0 ≠ b.f0) := List.pairwise_map.1 hnd
    refine (hs.and hnd2).imp ?_
    intro a b hab
    have h2 : ¬ rcmp a.f0 b.f0 = 0 := fun h0 => hab.2 ((rcmp_ord.eq0 _ _).1 h0)
    have h1 : rcmp a.f0 b.f0 ≤ 0 := hab.1
    omega
/-! ### .. in the world -/
/-- The rows of value v: each shares the caller's row and owns its periods. -/
def GSt (W : World) (base : Nat) (v : Value) (gs : List S159) : Prop :=
  ∃ rws : List (List Value), rws.length = gs.length ∧ (Kd.raw 2).R 159 W base (fun _ => True) v rws ∧
    (∀ (j : Nat) (x : S159) (r : List Value), gs[j]? = some x → rws[j]? = some r → ∃ A c q, r = [.slice A x.f0.length c, q] ∧ x.f0.length ≤ c ∧ Kd.F k82 W (fun k => k < base) A x.f0.length x.f0 ∧ k50.R 50 W base (fun _ => True) q x.f1) ∧
    ∀ (i j : Nat) (ri rj : List Value), rws[i]? = some ri → rws[j]? = some rj → i ≠ j → (ri.getD 1 undef).ownBlock ≠ (rj.getD 1 undef).ownBlock ∨ (ri.getD 1 undef).ownBlock = none
theorem GSt.nil (W : World) (base : Nat) : GSt W base (.slice none 0 0) [] := ⟨[], rfl, Kd.R_nil _ _ _ _ _, by simp, by simp⟩
theorem GSt.below {W W' : World} {base : Nat} {v : Value} {gs : List S159} (h : GSt W base v gs) (hb : Below W.heap.size W W') : GSt W' base v gs := by
  obtain ⟨rws, h1, h2, h3, h4⟩ := h
  refine ⟨rws, h1, Kd.R_below h2 hb, fun j x r hx hr => ?_, h4⟩
  obtain ⟨A, c, q, e, hc, hf, hq⟩ := h3 j x r hx hr
  exact ⟨A, c, q, e, hc, Kd.F_below hf hb, Kd.R_below hq hb⟩
/-- Another block is written, of another type. -/
theorem GSt.grown {W W' : World} {base x : Nat} {v : Value} {gs : List S159} {o : Obj} (h : GSt W base v gs) (hg : W.grownBy W' (some x)) (hx : W.heap[x]? = some o) (h159 : ∀ cs, o ≠ .cells cs 159 (0, 0)) (h50 : ∀ cs, o ≠ .cells cs 50 (0, 0)) (hb : base ≤ x) : GSt W' base v gs := by
  obtain ⟨rws, h1, h2, h3, h4⟩ := h
  refine ⟨rws, h1, Kd.R_grown1 h2 rfl hg (R_apart h2 hx h159), fun j y r hy hr => ?_, h4⟩
  obtain ⟨A, c, q, e, hc, hf, hq⟩ := h3 j y r hy hr
  exact ⟨A, c, q, e, hc, Kd.F_grown hf hg (fun k hk he => by have := Option.some.inj he; omega), Kd.R_grown1 hq rfl hg (R_apart hq hx h50)⟩
theorem GSt.len {W : World} {base : Nat} {v : Value} {gs : List S159} (h : GSt W base v gs) : ∃ A c, v = .slice A gs.length c := by
  obtain ⟨rws, h1, h2, h3, h4⟩ := h
  obtain ⟨A, c, e⟩ := Kd.R_slice h2
  exact ⟨A, c, by rw [e, h1]⟩
theorem GSt.base_ {W : World} {base : Nat} {v : Value} {gs : List S159} (h : GSt W base v gs) : ∀ k, v.ownBlock = some k → base ≤ k := by
  obtain ⟨rws, h1, h2, h3, h4⟩ := h
  exact Kd.R_base h2
/-- A new row, with no period yet. -/
theorem GSt.new {W W' : World} {base : Nat} {v v1 : Value} {gs : List S159} {row : List S82} {A : Option Addr} {c : Nat} {rws : List (List Value)} (h1 : rws.length = gs.length) (h2 : (Kd.raw 2).R 159 W base (fun _ => True) v rws)
    (h3 : ∀ (j : Nat) (x : S159) (r : List Value), gs[j]? = some x → rws[j]? = some r → ∃ A c q, r = [.slice A x.f0.length c, q] ∧ x.f0.length ≤ c ∧ Kd.F k82 W (fun k => k < base) A x.f0.length x.f0 ∧ k50.R 50 W base (fun _ => True) q x.f1)
    (h4 : ∀ (i j : Nat) (ri rj : List Value), rws[i]? = some ri → rws[j]? = some rj → i ≠ j → (ri.getD 1 undef).ownBlock ≠ (rj.getD 1 undef).ownBlock ∨ (ri.getD 1 undef).ownBlock = none)
    (hle : row.length ≤ c) (hF : Kd.F k82 W (fun k => k < base) A row.length row)
    (hR : (Kd.raw 2).R 159 W' base (fun _ => True) v1 (rws ++ [[.slice A row.length c, .slice none 0 0]])) (hg : W.grownBy W' v.ownBlock) : GSt W' base v1 (gs ++ [⟨row, []⟩]) := by
  have hbase : ∀ k, v.ownBlock = some k → base ≤ k := Kd.R_base h2
  have hnf : ∀ k, k < base → some k ≠ v.ownBlock := fun k hk e => by have := hbase k e.symm; omega
  refine ⟨rws ++ [[.slice A row.length c, .slice none 0 0]], by simp [h1], hR, fun j x r hx hr => ?_, fun i j ri rj hi hj hij => ?_⟩
  · rcases Nat.lt_or_ge j gs.length with hlt | hge
    · rw [List.getElem?_append_left hlt] at hx
      rw [List.getElem?_append_left (by omega)] at hr
      obtain ⟨A, c, q, e, hc, hf, hq⟩ := h3 j x r hx hr
      refine ⟨A, c, q, e, hc, Kd.F_grown hf hg hnf, ?_⟩
      refine Kd.R_grown2 hq rfl hg (fun k hk he => ?_)
      obtain ⟨cells, hh⟩ := Kd.R_typed h2 k hk
      exact R_apart hq hh (by intro cs e; injection e with _ e2; cases e2) he
    · rw [List.getElem?_append_right hge] at hx
      rw [List.getElem?_append_right (by omega)] at hr
      have hj0 : j - gs.length = 0 := by
        have := (List.getElem?_eq_some_iff.1 hx).1
        simpa using this
      rw [hj0] at hx
      rw [show j - rws.length = 0 by omega] at hr
      obtain rfl := Option.some.inj hx
      obtain rfl := Option.some.inj hr
      exact ⟨A, c, _, rfl, hle, Kd.F_grown hF hg hnf, Kd.R_nil _ _ _ _ _⟩
  · have hlast : ∀ i r, (rws ++ [[.slice A row.length c, .slice none 0 0]])[i]? = some r → rws.length ≤ i → (r.getD 1 undef).ownBlock = none := by
      intro i r hr hge
      rw [List.getElem?_append_right hge] at hr
      have : i - rws.length = 0 := by
        have := (List.getElem?_eq_some_iff.1 hr).1
        simpa using this
      rw [this] at hr
      obtain rfl := Option.some.inj hr
      rfl
    rcases Nat.lt_or_ge i rws.length with hlt | hge
    · rcases Nat.lt_or_ge j rws.length with hlt2 | hge2
      · rw [List.getElem?_append_left hlt] at hi
        rw [List.getElem?_append_left hlt2] at hj
        exact h4 i j ri rj hi hj hij
      · have h0 := hlast j rj hj hge2
        rw [h0]
        cases (ri.getD 1 undef).ownBlock with
        | none => exact .inr rfl
        | some k => exact .inl (by simp)
    · exact .inr (hlast i ri hi hge)
end Go.Proofs.YtiamihkfphmohaaGreatDoor.PA

namespace Go.Proofs.YtiamihkfphmohaaGreatDoor.PA
open Go.RowKit Go.Proofs.YtiamihkfphmohaaGreatDoorW.PrintWords Go.Proofs.YtiamihkfphmohaaGreatDoorW.PrintLast Go.Proofs.YtiamihkfphmohaaGreatDoorW.PrintMore

/-- Where the periods' cell of row i lies. -/
def gcell (g i : Nat) : Addr := ⟨((⟨g, 0, none⟩ : Addr).add (i * 2)).block, ((⟨g, 0, none⟩ : Addr).add (i * 2)).off + 1, none⟩
theorem gcell_is (g i : Nat) : gcell g i = ⟨g, i * 2 + 1, none⟩ := by unfold gcell; rw [add_plain]
theorem GSt.step {W : World} {base : Nat} {v : Value} {gs : List S159} (h : GSt W base v gs) {i : Nat} {x : S159} (hi : gs[i]? = some x) :
    ∃ g c A5 c5, v = .slice (some ⟨g, 0, none⟩) gs.length c ∧ base ≤ g ∧ g < W.heap.size ∧ W.cell? (gcell g i) = some (.slice A5 x.f1.length c5) ∧ k50.R 50 W base (fun _ => True) (.slice A5 x.f1.length c5) x.f1 ∧
      (∃ cs, W.heap[g]? = some (.cells cs 159 (0, 0))) ∧
      ∀ (p : S50) (v1 : Value) (W1 : World), k50.R 50 W1 base (fun _ => True) v1 (x.f1 ++ [p]) → W.grownBy W1 (Value.slice A5 x.f1.length c5).ownBlock → (v1.ownBlock = (Value.slice A5 x.f1.length c5).ownBlock ∨ ∃ b, v1.ownBlock = some b ∧ W.heap.size ≤ b) →
        W1.cell? (gcell g i) = some (.slice A5 x.f1.length c5) ∧ W1.frozen? (gcell g i) = false ∧ GSt (W1.setCell (gcell g i) v1) base v (gs.set i ⟨x.f0, x.f1 ++ [p]⟩) ∧ W1.grownBy (W1.setCell (gcell g i) v1) (some g) := by
  obtain ⟨rws, h1, h2, h3, h4⟩ := h
  obtain ⟨hil, hix⟩ := List.getElem?_eq_some_iff.1 hi
  have hr : rws[i]? = some rws[i] := List.getElem?_eq_getElem (by omega)
  obtain ⟨A, c3, q, e, hc3, hF, hq⟩ := h3 i x _ hi hr
  rw [e] at hr
  obtain ⟨A5, c5, rfl⟩ := Kd.R_slice hq
  obtain ⟨g, cap, rfl, hbg, hlt, cells, hh⟩ := R_form h2 (by omega)
  have hcell : ∀ {W' : World} {v' : Value} {rs : List (List Value)}, (Kd.raw 2).R 159 W' base (fun _ => True) (.slice (some ⟨g, 0, none⟩) rws.length cap) rs → ∀ {r : List Value} {u : Value}, rs[i]? = some r → r[1]? = some u → W'.cell? (gcell g i) = some u ∧ W'.frozen? (gcell g i) = false := by
    intro W' v' rs hR r u hr hu
    obtain ⟨hil', _⟩ := List.getElem?_eq_some_iff.1 hr
    have hn := (Kd.R_reads' hR).1
    obtain ⟨c, hcl, hM, hcc, hfr⟩ := Kd.R_elem hR [] (i : Int) (by omega) (by omega)
    simp only [Int.toNat_natCast] at hM hcc hfr
    rw [List.getD_eq_getElem?_getD, hr] at hM
    have e1 : c = r := hM.1
    rw [gcell_is]
    have h5 := hcc 1 u (by rw [e1]; exact hu)
    exact ⟨h5, hfr 1⟩
  refine ⟨g, cap, A5, c5, by rw [h1], hbg, hlt, (hcell (v' := .slice none 0 0) h2 hr rfl).1, hq, ⟨cells, hh⟩, fun p v1 W1 hR1 hg hat => ?_⟩
  have hng : some g ≠ (Value.slice A5 x.f1.length c5).ownBlock := R_apart hq hh (by intro cs e; injection e with _ e2; cases e2)
  have h2' := Kd.R_grown1 h2 rfl hg (by show _ ≠ some g; exact fun e => hng e.symm)
  obtain ⟨hcl, hfr⟩ := hcell (v' := .slice none 0 0) h2' hr rfl
  have hv1 := (Kd.R_val hR1).2
  obtain ⟨hset, hgs⟩ := raw_set h2' i 1 _ hr (by omega) v1 hv1
  rw [← gcell_is] at hset hgs
  have hh1 := hg.block g hlt hng
  have hlt1 : g < W1.heap.size := Nat.lt_of_lt_of_le hlt hg.size
  have hh1' : W1.heap[g]? = some (.cells cells 159 (0, 0)) := hh1.trans hh
  refine ⟨hcl, hfr, ⟨_, by simp [h1], hset, fun j y r hy hrj => ?_, fun a b ra rb ha hb hab => ?_⟩, hgs⟩
  · by_cases hij : i = j
    · subst hij
      rw [List.getElem?_set_self (by omega)] at hy hrj
      obtain rfl := Option.some.inj hy
      obtain rfl := Option.some.inj hrj
      refine ⟨A, c3, v1, rfl, hc3, ?_, ?_⟩
      · exact Kd.F_grown (Kd.F_grown hF hg (fun k hk he => by have := Kd.R_base hq k he.symm; omega)) hgs (fun k hk he => by have := Option.some.inj he; omega)
      · exact Kd.R_grown1 hR1 rfl hgs (R_apart hR1 hh1' (by intro cs e; injection e with _ e2; cases e2))
    · rw [List.getElem?_set_ne hij] at hy hrj
      obtain ⟨A', c', q', e', hc', hF', hq'⟩ := h3 j y r hy hrj
      refine ⟨A', c', q', e', hc', ?_, ?_⟩
      · exact Kd.F_grown (Kd.F_grown hF' hg (fun k hk he => by have := Kd.R_base hq k he.symm; omega)) hgs (fun k hk he => by have := Option.some.inj he; omega)
      · have hsep := h4 j i r _ hrj hr (fun e => hij e.symm)
        rw [e'] at hsep
        have hq1 : k50.R 50 W1 base (fun _ => True) q' y.f1 := by
          refine Kd.R_grown2 hq' rfl hg (fun k hk he => ?_)
          rcases hsep with h5 | h5
          · exact h5 (by show q'.ownBlock = (Value.slice A5 x.f1.length c5).ownBlock; rw [hk, ← he])
          · have h6 : q'.ownBlock = none := h5
            rw [h6] at he
            cases he
        exact Kd.R_grown1 hq1 rfl hgs (R_apart hq1 hh1' (by intro cs e; injection e with _ e2; cases e2))
  · -- no two rows own one block
    have key : ∀ j r, rws[j]? = some r → i ≠ j → v1.ownBlock ≠ (r.getD 1 undef).ownBlock := by
      intro j r hrj hij he
      obtain ⟨hjl, _⟩ := List.getElem?_eq_some_iff.1 hrj
      obtain ⟨A', c', q', e', hc', hF', hq'⟩ := h3 j _ r (List.getElem?_eq_getElem (by omega)) hrj
      have hqr : (r.getD 1 undef).ownBlock = q'.ownBlock := by rw [e']; rfl
      rw [hqr] at he
      obtain ⟨gg, cc, hv1e, _, hl1, _⟩ := R_form hR1 (by simp)
      have hvb : v1.ownBlock = some gg := by rw [hv1e]; rfl
      rw [hvb] at he
      have hqlt := Kd.R_lt hq' gg he.symm
      rcases hat with h5 | ⟨b, h5, h6⟩
      · rcases h4 j i r _ hrj hr (fun e => hij e.symm) with h7 | h7
        · exact h7 (by rw [hqr, ← he, ← hvb, h5]; rfl)
        · rw [hqr, ← he] at h7; cases h7
      · rw [hvb] at h5
        have := Option.some.inj h5
        omega
    by_cases hia : i = a
    · subst hia
      rw [List.getElem?_set_self (by omega)] at ha
      rw [List.getElem?_set_ne hab] at hb
      obtain rfl := Option.some.inj ha
      exact .inl (key b rb hb hab)
    · rw [List.getElem?_set_ne hia] at ha
      by_cases hib : i = b
      · subst hib
        rw [List.getElem?_set_self (by omega)] at hb
        obtain rfl := Option.some.inj hb
        exact .inl (fun e => key a ra ha hia e.symm)
      · rw [List.getElem?_set_ne hib] at hb
        exact h4 a b ra rb ha hb hab
theorem GSt.N {W : World} {base : Nat} {v : Value} {gs : List S159} (h : GSt W base v gs) : Kd.N k159 159 W base (fun _ => True) v gs := by
  have hbase := h.base_
  obtain ⟨rws, h1, h2, h3, h4⟩ := h
  refine ⟨fun _ _ => trivial, rws, h1, Kd.raw_tight h2, fun j x r hx hr => ?_⟩
  obtain ⟨A, c, q, rfl, hc, hF, hq⟩ := h3 j x r hx hr
  obtain ⟨A5, c5, rfl⟩ := Kd.R_slice hq
  have hl := (Kd.R_reads' hq).2.1
  refine k159_mkF W _ x hc (Kd.F_mono hF (fun k hk => ⟨trivial, fun e => by have := hbase k e.symm; omega⟩)) hl (Kd.F_mono (Kd.R_F (Kd.R_tight rfl hq)) (fun k hk => ⟨trivial, fun e => ?_⟩))
  obtain ⟨cells, hh⟩ := Kd.R_typed h2 k e.symm
  exact R_apart hq hh (by intro cs e; injection e with _ e2; cases e2) hk
end Go.Proofs.YtiamihkfphmohaaGreatDoor.PA

namespace Go.Proofs.YtiamihkfphmohaaGreatDoor.PA
open Go.RowKit Go.Proofs.YtiamihkfphmohaaGreatDoorW.PrintWords Go.Proofs.YtiamihkfphmohaaGreatDoorW.PrintLast Go.Proofs.YtiamihkfphmohaaGreatDoorW.PrintMore
open Go.Sort Go.Shelf Go.Proofs

set_option maxHeartbeats 400000 in
theorem g165 (A1 : Option Addr) (n1 c1 : Nat) (l1 : List S82) (q1 : Value) (A2 : Option Addr) (n2 c2 : Nat) (l2 : List S82) (q2 : Value) (w : World) (hr1 : k82.C w A1 n1 l1) (hr2 : k82.C w A2 n2 l2) :
    Calls Tryz.prog 165 #[.agg #[.slice A1 n1 c1, q1], .agg #[.slice A2 n2 c2, q2]] w fun e w' => e = .returned (.int .i64 (rcmp l1 l2)) ∧ Gro w w' := by
  have HR1 := Aside0.mk hr1
  have HR2 := Aside0.mk hr2
  clear hr1 hr2
  have hb : Below w.heap.size w ((w.alloc (.cells #[.slice A1 n1 c1, q1] 159)).alloc (.cells #[.slice A2 n2 c2, q2] 159)) := below_alloc (below_alloc (Below.refl _ _) _) _
  have HB := Aside0.mk hb
  clear hb
  go_enter Tryz.func165, Tryz.ntmps165
  go_wp2_with fail
  refine (g189 _ _ _ _ _ _ _ _ _ (Kd.C_below HR1.out HB.out) (Kd.C_below HR2.out HB.out)).mono ?_
  rintro e w1 ⟨rfl, hb1⟩
  have HB1 := Aside0.mk hb1
  clear hb1
  go_wp2
  go_ret
  exact ⟨rfl, bthen HB.out HB1.out.1, by have := HB1.out.2; simp only [dr_alloc] at this; omega⟩
theorem ent165 : ∀ args w, (callFunc 165 args).run Tryz.prog w = .ok (.enter 165 args) w := enters_of Tryz.func165 (by kernel_rfl) rfl
theorem agg159 : ∀ w, (isAgg 159).run Tryz.prog w = .ok true w := fun _ => by kernel_rfl
theorem size159 : ∀ w, (Go.sizeOf 159).run Tryz.prog w = .ok 2 w := fun _ => by kernel_rfl
def GrpSorted (e base : Nat) (ok : Nat → Prop) (v : Value) (xs : List S159) (w : World) (en : Ending) (w' : World) : Prop := NSorted k159 (fun a b => rcmp a.f0 b.f0) e w base ok v xs en w'
theorem ins217 {e : Nat} {w : World} {base : Nat} {ok : Nat → Prop} {v : Value} {xs : List S159} (HN : Kd.N k159 e w base ok v xs) (hlen : xs.length < 4611686018427387904) :
    Calls Tryz.prog 217 #[v, .int .i64 (0 : Int), .int .i64 xs.length, .func (.func 165) #[] #[]] w (GrpSorted e base ok v xs w) := by
  by_cases hne : 0 < xs.length
  · refine (N_insK Tryz.insGrp (d := k159) agg159 size159 rcmp rcmp_ord S159.f0 165 #[] ent165 (fun W x y csx csy hW hx hy => ?_) (by decide) HN hne hlen).mono fun _ _ h => h
    obtain ⟨A1, c1, A2, c2, rfl, _, hx, _⟩ := k159_open hx
    obtain ⟨A3, c3, A4, c4, rfl, _, hy, _⟩ := k159_open hy
    refine (g165 A1 _ c1 x.f0 _ A3 _ c3 y.f0 _ W hx hy).mono ?_
    rintro en w' ⟨rfl, hg⟩
    exact ⟨rfl, hg.grow⟩
  · obtain rfl : xs = [] := List.eq_nil_of_length_eq_zero (by omega)
    obtain ⟨A, c, rfl⟩ := Kd.N_slice HN
    refine (AnyF.insertionSortCmpFunc_none (P := Tryz.prog) Tryz.insGrp A c (.func (.func 165) #[] #[]) w).mono ?_
    rintro e w' ⟨rfl, rfl⟩
    exact ⟨rfl, [], List.Perm.refl _, List.Pairwise.nil, HN, grown_of_below (Below.refl _ _) _⟩
set_option maxHeartbeats 1000000 in
set_option maxRecDepth 100000 in
theorem st193 {e : Nat} {w : World} {base : Nat} {ok : Nat → Prop} {v : Value} {xs : List S159} (HN : Kd.N k159 e w base ok v xs) (hlen : xs.length < 20) :
    Calls Tryz.prog 193 #[v, .int .i64 xs.length, .func (.func 165) #[] #[]] w (GrpSorted e base ok v xs w) := by
  have H := Aside0.mk HN
  clear HN
  have h20 : ¬ (20 : Int) ≤ xs.length := by omega
  have h20' : ¬ (20 : Int) < xs.length := by omega
  go_enter Tryz.func193, Tryz.ntmps193
  go_wp2
  refine wp_loop_rounds 1 ?_
  rw [rounds_succ]
  go_wp2_with fail
  refine (ins217 H.out (by omega)).mono ?_
  rintro en w1 ⟨rfl, ys, hp, hs, hN, hg⟩
  have R := Aside0.mk (And.intro hp (And.intro hs (And.intro hN hg)))
  clear hp hs hN hg
  go_wp2
  refine wp_loop_rounds 1 ?_
  rw [rounds_succ]
  go_wp2
  go_end0
  exact ⟨rfl, ys, R.out.1, R.out.2.1, R.out.2.2.1, R.out.2.2.2⟩
set_option maxHeartbeats 1000000 in
set_option maxRecDepth 100000 in
theorem ss164 {e : Nat} {w : World} {base : Nat} {ok : Nat → Prop} {v : Value} {xs : List S159} (HN : Kd.N k159 e w base ok v xs) (hlen : xs.length < 20) :
    Calls Tryz.prog 164 #[v, .func (.func 165) #[] #[]] w (GrpSorted e base ok v xs w) := by
  obtain ⟨A, c, rfl⟩ := Kd.N_slice HN
  have H := Aside0.mk HN
  clear HN
  go_enter Tryz.func164, Tryz.ntmps164
  go_wp2_with fail
  refine (st193 H.out hlen).mono ?_
  rintro en w1 ⟨rfl, ys, hp, hs, hN, hg⟩
  have R := Aside0.mk (And.intro hp (And.intro hs (And.intro hN hg)))
  clear hp hs hN hg
  go_wp2
  go_end0
  exact ⟨rfl, ys, R.out.1, R.out.2.1, R.out.2.2.1, R.out.2.2.2⟩
end Go.Proofs.YtiamihkfphmohaaGreatDoor.PA

namespace Go.Proofs.YtiamihkfphmohaaGreatDoor.PA
open Go.RowKit Go.Proofs.YtiamihkfphmohaaGreatDoorW.PrintWords Go.Proofs.YtiamihkfphmohaaGreatDoorW.PrintLast Go.Proofs.YtiamihkfphmohaaGreatDoorW.PrintMore

/-- The places of the rows by their keys: what the map of block mb holds. -/
def Idx (W : World) (mb n : Nat) (gs : List S159) : Prop :=
  ∃ f, VMap W mb n f ∧ (∀ s, f s = none → ∀ y ∈ gs, encK y.f0 ≠ s) ∧ ∀ (s : List UInt8) (u : Value), f s = some u → ∃ (i : Nat) (y : S159), u = .int .i64 (i : Int) ∧ gs[i]? = some y ∧ encK y.f0 = s
theorem Idx.below {W W' : World} {mb n : Nat} {gs : List S159} (h : Idx W mb n gs) (hb : Below W.heap.size W W') : Idx W' mb n gs := by
  obtain ⟨f, h1, h2, h3⟩ := h
  exact ⟨f, h1.below hb, h2, h3⟩
theorem Idx.kept {W W' : World} {mb n : Nat} {gs : List S159} {row : Option Nat} (h : Idx W mb n gs) (hg : W.grownBy W' row) (hne : some mb ≠ row) : Idx W' mb n gs := by
  obtain ⟨f, h1, h2, h3⟩ := h
  exact ⟨f, h1.kept hg hne, h2, h3⟩
theorem Idx.same {W : World} {mb n : Nat} {gs gs' : List S159} (h : Idx W mb n gs) (he : gs'.map S159.f0 = gs.map S159.f0) : Idx W mb n gs' := by
  obtain ⟨f, h1, h2, h3⟩ := h
  refine ⟨f, h1, fun s hs y hy => ?_, fun s u hu => ?_⟩
  · have : y.f0 ∈ gs.map S159.f0 := by rw [← he]; exact List.mem_map_of_mem hy
    obtain ⟨z, hz, hze⟩ := List.mem_map.1 this
    rw [← hze]
    exact h2 s hs z hz
  · obtain ⟨i, y, e1, e2, e3⟩ := h3 s u hu
    have h5 : (gs'.map S159.f0)[i]? = some y.f0 := by rw [he, List.getElem?_map, e2]; rfl
    rw [List.getElem?_map] at h5
    obtain ⟨z, hz, hze⟩ := Option.map_eq_some_iff.1 h5
    exact ⟨i, z, e1, hz, by rw [hze]; exact e3⟩
theorem Idx.blk {W : World} {mb n : Nat} {gs : List S159} (h : Idx W mb n gs) : ∃ es clock, W.heap[mb]? = some (.map es clock) := by
  obtain ⟨f, ⟨D, ⟨es, clock, h1, _⟩, _⟩, _⟩ := h
  exact ⟨es, clock, h1⟩
def KeysAll (l : List S58) : Prop := ∀ x ∈ l, (∀ v ∈ x.f0, InR v) ∧ (encK x.f0).length ≤ 70368744177664
def GrpRes (l : List S58) (w : World) (en : Ending) (w' : World) : Prop :=
  ∃ v ys, en = .returned v ∧ GOK l ys ∧ ys.length ≤ l.length ∧ Kd.N k159 159 w' w.heap.size (fun _ => True) v ys ∧ Below w.heap.size w w'
theorem set_f0 {gs : List S159} {i : Nat} {y : S159} (hi : gs[i]? = some y) (q : List S50) : (gs.set i ⟨y.f0, q⟩).map S159.f0 = gs.map S159.f0 := by
  obtain ⟨hil, hiy⟩ := List.getElem?_eq_some_iff.1 hi
  rw [List.map_set]
  apply List.ext_getElem?
  intro j
  by_cases hj : i = j
  · subst hj
    rw [List.getElem?_set_self (by simpa using hil), List.getElem?_map, hi]
    rfl
  · rw [List.getElem?_set_ne hj]
theorem Idx.push {W W1 W3 : World} {base mb n g i : Nat} {gs : List S159} {y : S159} {q : List S50} {pv : Value} {ps : List S50} {cs : Array Value} (h : Idx W mb n gs) (hR : k50.R 50 W base (fun _ => True) pv ps) (hg : W.grownBy W1 pv.ownBlock) (hb : W.heap[g]? = some (.cells cs 159 (0, 0))) (hgu : W1.grownBy W3 (some g)) (hi : gs[i]? = some y) : Idx W3 mb n (gs.set i ⟨y.f0, q⟩) := by
  obtain ⟨es, clock, hm⟩ := h.blk
  have h1 := h.kept hg (R_apart hR hm (by intro cs e; cases e))
  have h2 := h1.kept hgu (by intro e; have e := Option.some.inj e; subst e; rw [hm] at hb; cases Option.some.inj hb)
  exact h2.same (set_f0 hi q)
set_option maxHeartbeats 1000000 in
set_option maxRecDepth 100000 in
theorem c193 (A : Option Addr) (n c : Nat) (l : List S58) (w : World) (hr : k58.C w A n l) (hl : l.length < 20) (hT : TabOK w) (hK : KeysAll l) :
    Calls Tryz.prog 130 #[.slice A n c] w (GrpRes l w) := by
  obtain rfl := hr.1
  have HR := Aside0.mk hr
  have HT := Aside0.mk hT
  have HK := Lib.hid hK
  clear hr hT hK
  have hmm := @run_makeMap Tryz.prog
  go_enter Tryz.func130, Tryz.ntmps130
  go_wp2
  have B0 := Aside0.mk (below_alloc (Below.refl w.heap.size w) (.map #[] 0))
  have I0 : Aside0 (Idx (w.alloc (.map #[] 0)) w.heap.size 0 []) := ⟨_, VMap.made w, fun s _ y hy => by simp at hy, fun s u hu => by cases hu⟩
  clear hmm
  have hmo : ∃ mb, mb = w.heap.size := ⟨_, rfl⟩
  obtain ⟨mb, hmb⟩ := hmo
  rw [← hmb] at I0 ⊢
  have HMB := Lib.hid hmb
  clear hmb
  generalize w.alloc (.map #[] 0) = W0 at *
  go_loopw [4, 6, 7, 8, 9, 13] (fun v xf xk xi xo i wr => ∃ (k n : Nat) (gs : List S159), i = .int .i64 k ∧ k ≤ l.length ∧ gs.length ≤ k ∧ n ≤ k ∧ Aside0 (Below w.heap.size w wr) ∧ Aside0 (GSt wr w.heap.size v gs) ∧ Aside0 (Idx wr mb n gs) ∧ Aside0 (GInv (l.take k) gs)) (fun _ _ _ _ _ i _ => l.length - (intOf i).toNat)
  case atStart => exact ⟨0, 0, [], rfl, Nat.zero_le _, Nat.zero_le _, Nat.zero_le _, B0, ⟨GSt.nil _ _⟩, I0, ⟨GInv.nil⟩⟩
  case round =>
    clear B0 I0
    obtain ⟨k, n, gs, rfl, hk', hgk, hnk, HB, HG, HI, HV⟩ := hrel
    by_cases h1 : k < l.length
    · have hst := Lib.hid (show l.take (k + 1) = l.take k ++ [rd_T58 l k] from by rw [take_step h1]; simp [rd_T58, h1])
      have hmem : rd_T58 l k ∈ l := by simp [rd_T58, h1]
      obtain ⟨hin, hkl⟩ := HK.out _ hmem
      have HIN := Lib.hid hin
      obtain ⟨xa, A3, c3, rfl, x0, x1, x2, hle, hrow⟩ := at_T58 HR.out k (by omega) (by omega)
      rw [Int.toNat_natCast] at x0 x1 x2
      replace x0 := pw_cell_below HB.out x0
      replace x1 := pw_cell_below HB.out x1
      replace x2 := pw_cell_below HB.out x2
      have xbl := World.block_lt_of_cell? _ _ x0
      have HF := Aside0.mk (Kd.F_below (Kd.C_F k82_heap hrow) HB.out)
      have HW := Aside0.mk (Kd.C_below hrow HB.out)
      clear hrow hin
      have hk1 : (0 : Int) ≤ k := by omega
      have hk2 : (k : Int) < l.length := by omega
      go_wp2_with fail
      refine (c147 _ _ _).mono ?_
      rintro e w1 ⟨rfl, hb8⟩
      have hb81 := bel1 hb8
      have hbb : (wr.alloc (.cells #[.slice A3 (rd_T58 l k).f0.length c3, .int .i64 (rd_T58 l k).f1.f0, .int .i64 (rd_T58 l k).f1.f1] 58)).heap[wr.heap.size]? = some (.cells #[.slice A3 (rd_T58 l k).f0.length c3, .int .i64 (rd_T58 l k).f1.f0, .int .i64 (rd_T58 l k).f1.f1] 58 (0, 0)) := blk_new _ _
      have z9 := blk_below hbb hb8
      have z0 : w1.cell? ⟨wr.heap.size, 0, none⟩ = some (.slice A3 (rd_T58 l k).f0.length c3) := by rw [blk_cell z9]; rfl
      have zl := World.block_lt_of_cell? _ _ z0
      have hB1 := below_step HB.out hb81
      have hG1 := HG.out.below hb81
      have hI1 := HI.out.below hb81
      have hF1 := Kd.F_below HF.out hb81
      have hW1 := Kd.C_below HW.out hb81
      have HBX := Aside0.mk z9
      have HBXL := Lib.hid (show w.heap.size ≤ wr.heap.size from HB.out.size)
      generalize wr.heap.size = bx at *
      have HB1 := Aside0.mk hB1
      have HG1 := Aside0.mk hG1
      have HI1 := Aside0.mk hI1
      have HF1 := Aside0.mk hF1
      have HW1 := Aside0.mk hW1
      clear hB1 hG1 hI1 hF1 hW1 HB HG HI HF HW hb8 hb81 hbb z9 x0 x1 x2 xbl
      by_cases hq : pv (rd_T58 l k).f1 = true
      · have hq' : pv ⟨(rd_T58 l k).f1.f0, (rd_T58 l k).f1.f1⟩ = true := hq
        have HQ := Lib.hid hq
        clear hq
        go_wp2_with fail
        refine (c233 _ _ _ (rd_T58 l k).f0 _ HW1.out (tab_below HT.out HB1.out) HIN.out hkl).mono ?_
        rintro e w2 ⟨rfl, hb2⟩
        have hB2 := bthen HB1.out hb2
        have hG2 := HG1.out.below hb2
        have hI2 := HI1.out.below hb2
        have hF2 := Kd.F_below HF1.out hb2
        have hX2 := blk_below HBX.out hb2
        clear HB1 HG1 HI1 HF1 HW1 hb2 HBX
        have hkey : (⟨(encK (rd_T58 l k).f0).toArray⟩ : ByteArray).data.toList = encK (rd_T58 l k).f0 := rfl
        have hksz : (⟨(encK (rd_T58 l k).f0).toArray⟩ : ByteArray).size ≤ maxLen := by show (encK (rd_T58 l k).f0).toArray.size ≤ maxLen; rw [List.size_toArray]; unfold maxLen; omega
        generalize hKS : (⟨(encK (rd_T58 l k).f0).toArray⟩ : ByteArray) = KS at *
        have HI2 := Aside0.mk hI2
        obtain ⟨f, hV, hf0, hf1⟩ := hI2
        have hz : ∀ W, (zeroValue 3).run Tryz.prog W = .ok (.int .i64 0) W := fun W => by kernel_rfl
        have hlk := hV.look_ok (t := 196) Tryz.underlying196 (hz w2) KS hksz
        rw [hkey] at hlk
        have z0 : w2.cell? ⟨bx, 0, none⟩ = some (.slice A3 (rd_T58 l k).f0.length c3) := by rw [blk_cell hX2]; rfl
        have HPL := Lib.hid (show ∀ z ∈ gs, z.f1.length ≤ 100 from fun z hz => by rw [(HV.out.2.1 z hz).1]; have := perR_len (l.take k) z.f0; rw [List.length_take] at this; omega)
        cases hf : f (encK (rd_T58 l k).f0) with
        | some u =>
          obtain ⟨i, y, rfl, hi, hey⟩ := hf1 _ u hf
          have hyr := encK_inj hey
          rw [hf] at hlk
          simp only [Option.getD_some, Option.isSome_some] at hlk
          obtain ⟨g5, c4, A5, c5, hve, hbg, hgl, hcell, hqR, ⟨csg, hgblk⟩, hpush⟩ := GSt.step hG2 hi
          subst hve
          simp only [gcell] at hcell hpush
          have hil := (List.getElem?_eq_some_iff.1 hi).1
          have y1 : (w2).cell? ⟨bx, 1, none⟩ = some (.int .i64 (rd_T58 l k).f1.f0) := by rw [blk_cell hX2]; rfl
          have y2 : (w2).cell? ⟨bx, 2, none⟩ = some (.int .i64 (rd_T58 l k).f1.f1) := by rw [blk_cell hX2]; rfl
          have yl := World.block_lt_of_cell? _ _ y1
          have gl := World.block_lt_of_cell? _ _ hcell
          have hil2 : (i : Int) < (gs).length := by omega
          have hil3 : (0 : Int) ≤ (i : Int) := by omega
          have hpl : (y).f1.length ≤ 100 := by first | exact HPL.out _ (List.mem_of_getElem? hi) | simp
          have HPUSH := Lib.hid hpush
          have HQR := Aside0.mk hqR
          have HBW := Aside0.mk hB2
          have hbs : w.heap.size ≤ (w2).heap.size := hB2.size
          have HGB := Lib.hid hgblk
          have HBG := Lib.hid hbg
          clear hpush hqR hgblk hbg
          generalize had : (⟨g5, 0, none⟩ : Addr) = ad at *
          have HAD := Lib.hid had
          clear had
          go_wp2_with fail
          go_region_law
            ((first
              | (refine Kd.R_append_step k50 (w0 := w) (W := (w2).drew) w.heap.size (by rfl) (.tmp 49) (.tmp 52) 41 50 (.agg #[(.int .i64 0), (.int .i64 0)]) 16 (by rfl) Tryz.underlying41 info50 (by rfl) (by decide) (by omega) (.slice A5 (y).f1.length c5) (y).f1 (rd_T58 l k).f1 [.int .i64 (rd_T58 l k).f1.f0, .int .i64 (rd_T58 l k).f1.f1] (fun _ => True) (fun _ => False) (by rfl) (by rfl) (k50_mkM _ _ _ (rd_T58 l k).f1) (fun _ hk => hk.elim) (fun _ _ => trivial) ?aO ?aB ?aS ?aL ?_; (case aO => exact HQR.out); (case aB => exact Below.drew HBW.out); (case aS => exact hbs); (case aL => first | omega | (simp; omega)); intro v1 W1 ho hb hg1 hat; obtain ⟨A7, c7, hv7⟩ := Kd.R_slice ho; rw [show ((y).f1 ++ [(rd_T58 l k).f1]).length = (y).f1.length + 1 from by simp] at hv7; subst hv7; obtain ⟨hs1, hs2, hG3, hgu⟩ := HPUSH.out (rd_T58 l k).f1 _ W1 ho ⟨hg1.os, hg1.tape, hg1.output, hg1.size, hg1.block⟩ hat)))
          all_goals
            go_wp2
            exact ⟨⟨k + 1, n, gs.set i ⟨y.f0, y.f1 ++ [(rd_T58 l k).f1]⟩, by go_num, h1, by simp; omega, by omega, ⟨pw_below_grown hb (some g5) (Nat.le_trans hbs hg1.size) hgu (by intro k_ hk_; rw [← Option.some.inj hk_]; exact HBG.out)⟩, ⟨hG3⟩, ⟨HI2.out.push HQR.out ⟨hg1.os, hg1.tape, hg1.output, hg1.size, hg1.block⟩ HGB.out hgu hi⟩, ⟨by rw [hst.out]; exact HV.out.old HQ.out hi hyr⟩⟩, by simp [intOf]; omega⟩
        | none =>
          rw [hf] at hlk
          simp only [Option.getD_none, Option.isSome_none] at hlk
          obtain ⟨A8, c8, hv8⟩ := hG2.len
          subst hv8
          obtain ⟨esm, clm, hmbk⟩ := HI2.out.blk
          obtain ⟨W3, hup, hV3, hgu3⟩ := hV.update (t := 196) Tryz.underlying196 (by unfold maxLen; omega) KS hksz (.int .i64 (gs.length : Int))
          have hG3' := hG2.grown hgu3 hmbk (by intro cs e; cases e) (by intro cs e; cases e) (by rw [HMB.out]; exact Nat.le_refl _)
          have hB3 := pw_below_grown hB2 (some mb) hB2.size hgu3 (by intro k_ hk_; rw [← Option.some.inj hk_, HMB.out]; exact Nat.le_refl _)
          have hF3 := Kd.F_grown hF2 hgu3 (fun k_ hk_ he_ => by have := Option.some.inj he_; have := HMB.out; omega)
          have hbm : some bx ≠ some mb := by
            intro e
            rw [← Option.some.inj e, hX2] at hmbk
            cases Option.some.inj hmbk
          have hX3 := blk_grown hX2 hgu3 hbm
          have y0 : W3.cell? ⟨bx, 0, none⟩ = some (.slice A3 (rd_T58 l k).f0.length c3) := by rw [blk_cell hX3]; rfl
          have yl0 := World.block_lt_of_cell? _ _ y0
          have hI3 : Idx W3 mb (n + 1) (gs ++ [⟨(rd_T58 l k).f0, []⟩]) := by
            refine ⟨_, hV3, fun s hs y hy => ?_, fun s u hu => ?_⟩
            · unfold fset at hs
              split at hs
              · cases hs
              · rename_i hne
                rcases List.mem_append.1 hy with hy | hy
                · exact hf0 s hs y hy
                · rw [List.mem_singleton] at hy
                  subst hy
                  rw [hkey] at hne
                  exact fun e => hne e.symm
            · unfold fset at hu
              split at hu
              · rename_i he
                rw [hkey] at he
                exact ⟨gs.length, ⟨(rd_T58 l k).f0, []⟩, (Option.some.inj hu).symm, by simp, he.symm⟩
              · obtain ⟨i, y, e1, e2, e3⟩ := hf1 s u hu
                exact ⟨i, y, e1, by rw [List.getElem?_append_left (List.getElem?_eq_some_iff.1 e2).1]; exact e2, e3⟩
          have HI3 := Aside0.mk hI3
          have HNEW := Lib.hid (show ∀ y ∈ gs, y.f0 ≠ (rd_T58 l k).f0 from fun y hy e => hf0 _ hf y hy (by rw [e]))
          have HX3 := Aside0.mk hX3
          have HB3 := Aside0.mk hB3
          have HF3 := Aside0.mk hF3
          have hbs3 : w.heap.size ≤ W3.heap.size := hB3.size
          obtain ⟨rws, hg1l, hraw, hg3, hg4⟩ := hG3'
          have HRAW := Aside0.mk hraw
          have HG3 := Lib.hid hg3
          have HG4 := Lib.hid hg4
          clear hG2 hI3 hX3 hB3 hF3 hraw hg3 hg4 hV3 hgu3 hbm hX2 hF2 hB2 hmbk HI2 hV hf0 hf1 hf
          go_wp2_with (at_builtin; refine Kd.R_append (Kd.raw 2) (w0 := w) w.heap.size rfl (.tmp 37) (.tmp 41) 156 159 (.agg #[(.slice none 0 0), (.slice none 0 0)]) 48 rfl Tryz.underlying156 info159 rfl (by decide) (by omega) (.slice A8 gs.length c8) rws [.slice A3 (rd_T58 l k).f0.length c3, .slice none 0 0] [.slice A3 (rd_T58 l k).f0.length c3, .slice none 0 0] (fun _ => True) (fun _ => False) rfl rfl ⟨rfl, rfl, by simp [Value.oneCell']⟩ (fun _ hk => hk.elim) (fun _ _ => trivial) ?aO ?aB ?aS ?aL ?_; (case aO => exact HRAW.out); (case aB => exact HB3.out); (case aS => exact hbs3); (case aL => exact (by omega)); intro v5 w5 ho5 hb5 hg5 hat5; skip)
          have hG5 := GSt.new hg1l HRAW.out HG3.out HG4.out hle HF3.out ho5 hg5
          have hI5 := HI3.out.kept hg5 (by obtain ⟨esm, clm, hm3⟩ := HI3.out.blk; exact R_apart HRAW.out hm3 (by intro cs e; cases e))
          have hX5 := blk_grown HX3.out hg5 (R_apart HRAW.out HX3.out (by intro cs e; injection e with _ e2; cases e2))
          obtain ⟨y, hy0, hy1⟩ : ∃ y : S159, y.f0 = (rd_T58 l k).f0 ∧ y.f1 = [] := ⟨⟨(rd_T58 l k).f0, []⟩, rfl, rfl⟩
          have hye : (⟨(rd_T58 l k).f0, []⟩ : S159) = y := by cases y; simp only at hy0 hy1; rw [hy0, hy1]
          rw [hye] at hG5 hI5
          obtain ⟨gs', hgs'⟩ : ∃ g, g = gs ++ [y] := ⟨_, rfl⟩
          rw [← hgs'] at hG5 hI5
          have hi5 : gs'[gs.length]? = some y := by rw [hgs']; simp
          have hgl5 : gs'.length = gs.length + 1 := by rw [hgs']; simp
          have HI2 := Aside0.mk hI5
          have HGL5 := Lib.hid hgl5
          clear hgl5
          have HY := Lib.hid hye
          have HGS := Lib.hid hgs'
          have hpl0 : y.f1.length ≤ 100 := by rw [hy1]; simp
          have HFIN := Lib.hid (show GInv (l.take k ++ [rd_T58 l k]) (gs'.set gs.length ⟨y.f0, y.f1 ++ [(rd_T58 l k).f1]⟩) from by
            rw [hgs', hy0, hy1]
            have := HV.out.new HQ.out HNEW.out
            rw [List.set_append_right _ _ (Nat.le_refl _)]
            simpa using this)
          clear hy0 hy1 hye hgs' hI5 ho5 hg5 hat5 HRAW HG3 HG4 HX3 HB3 HF3 y0 yl0
          obtain ⟨g5, c4, A5, c5, hve, hbg, hgl, hcell, hqR, ⟨csg, hgblk⟩, hpush⟩ := GSt.step hG5 hi5
          subst hve
          simp only [gcell] at hcell hpush
          have hil := (List.getElem?_eq_some_iff.1 hi5).1
          have y1 : (w5).cell? ⟨bx, 1, none⟩ = some (.int .i64 (rd_T58 l k).f1.f0) := by rw [blk_cell hX5]; rfl
          have y2 : (w5).cell? ⟨bx, 2, none⟩ = some (.int .i64 (rd_T58 l k).f1.f1) := by rw [blk_cell hX5]; rfl
          have yl := World.block_lt_of_cell? _ _ y1
          have gl := World.block_lt_of_cell? _ _ hcell
          have hil2 : (gs.length : Int) < (gs').length := by omega
          have hil3 : (0 : Int) ≤ (gs.length : Int) := by omega
          have hpl : (y).f1.length ≤ 100 := by exact hpl0
          have HPUSH := Lib.hid hpush
          have HQR := Aside0.mk hqR
          have HBW := Aside0.mk hb5
          have hbs : w.heap.size ≤ (w5).heap.size := hb5.size
          have HGB := Lib.hid hgblk
          have HBG := Lib.hid hbg
          clear hpush hqR hgblk hbg
          generalize had : (⟨g5, 0, none⟩ : Addr) = ad at *
          have HAD := Lib.hid had
          clear had
          go_wp2_with fail
          go_region_law
            ((first
              | (refine Kd.R_append_step k50 (w0 := w) (W := (w5).drew) w.heap.size (by rfl) (.tmp 49) (.tmp 52) 41 50 (.agg #[(.int .i64 0), (.int .i64 0)]) 16 (by rfl) Tryz.underlying41 info50 (by rfl) (by decide) (by omega) (.slice A5 (y).f1.length c5) (y).f1 (rd_T58 l k).f1 [.int .i64 (rd_T58 l k).f1.f0, .int .i64 (rd_T58 l k).f1.f1] (fun _ => True) (fun _ => False) (by rfl) (by rfl) (k50_mkM _ _ _ (rd_T58 l k).f1) (fun _ hk => hk.elim) (fun _ _ => trivial) ?aO ?aB ?aS ?aL ?_; (case aO => exact HQR.out); (case aB => exact Below.drew HBW.out); (case aS => exact hbs); (case aL => first | omega | (simp; omega)); intro v1 W1 ho hb hg1 hat; obtain ⟨A7, c7, hv7⟩ := Kd.R_slice ho; rw [show ((y).f1 ++ [(rd_T58 l k).f1]).length = (y).f1.length + 1 from by simp] at hv7; subst hv7; obtain ⟨hs1, hs2, hG3, hgu⟩ := HPUSH.out (rd_T58 l k).f1 _ W1 ho ⟨hg1.os, hg1.tape, hg1.output, hg1.size, hg1.block⟩ hat)))
          all_goals
            go_wp2
            exact ⟨⟨k + 1, n + 1, gs'.set gs.length ⟨y.f0, y.f1 ++ [(rd_T58 l k).f1]⟩, by go_num, h1, by rw [List.length_set]; have := HGL5.out; omega, by omega, ⟨pw_below_grown hb (some g5) (Nat.le_trans hbs hg1.size) hgu (by intro k_ hk_; rw [← Option.some.inj hk_]; exact HBG.out)⟩, ⟨hG3⟩, ⟨HI2.out.push HQR.out ⟨hg1.os, hg1.tape, hg1.output, hg1.size, hg1.block⟩ HGB.out hgu hi5⟩, ⟨by rw [hst.out]; exact HFIN.out⟩⟩, by simp [intOf]; omega⟩
      · have hq' : pv ⟨(rd_T58 l k).f1.f0, (rd_T58 l k).f1.f1⟩ = false := by simpa using hq
        have HQ := Lib.hid hq
        clear hq
        go_wp2
        exact ⟨⟨k + 1, n, gs, by go_num, h1, by omega, by omega, HB1, HG1, HI1, ⟨by rw [hst.out]; exact HV.out.skip HQ.out⟩⟩, by simp [intOf]; omega⟩
    · have htk : l.take k = l := List.take_of_length_le (by omega)
      rw [htk] at HV
      go_wp2_with fail
      refine (ss164 HG.out.N (by omega)).mono ?_
      rintro en w1 ⟨rfl, ys, hp, hs, hN, hg⟩
      have R := Aside0.mk (And.intro (HV.out.sorted hp hs) (And.intro (show ys.length ≤ l.length from by rw [hp.length_eq]; omega) (And.intro hN (HB.out.grown hg HB.out.size HG.out.base_))))
      clear hp hs hN hg
      go_wp2
      go_ret
      exact ⟨_, ys, rfl, R.out.1, R.out.2.1, R.out.2.2⟩
end Go.Proofs.YtiamihkfphmohaaGreatDoor.PA

namespace Go.Proofs.YtiamihkfphmohaaGreatDoor.PA
open Go.RowKit Go.Proofs.YtiamihkfphmohaaGreatDoorW.PrintWords Go.Proofs.YtiamihkfphmohaaGreatDoorW.PrintLast Go.Proofs.YtiamihkfphmohaaGreatDoorW.PrintMore

/-- A fact for each period that belongs to a row's periods. -/
def BuiltR (Sp : List S50 → List S50 → Prop) : List S159 → List S58 → Prop
  | [], out => out = []
  | g :: gs, out => ∃ sp rest, Sp g.f1 sp ∧ out = sp.map (fun p => ⟨g.f0, p⟩) ++ rest ∧ BuiltR Sp gs rest
theorem BuiltR.snoc {Sp : List S50 → List S50 → Prop} : ∀ {gs : List S159} {out : List S58} {g : S159} {sp : List S50}, BuiltR Sp gs out → Sp g.f1 sp → BuiltR Sp (gs ++ [g]) (out ++ sp.map (fun p => ⟨g.f0, p⟩))
  | [], out, g, sp, h, hs => by
    have h : out = [] := h
    subst h
    exact ⟨sp, [], hs, by simp, rfl⟩
  | x :: gs, out, g, sp, h, hs => by
    obtain ⟨sp', rest, h1, rfl, h3⟩ := h
    exact ⟨sp', rest ++ sp.map (fun p => ⟨g.f0, p⟩), h1, by rw [List.append_assoc], h3.snoc hs⟩
/-- What build asks of its closure. -/
def GivesSp (Sp : List S50 → List S50 → Prop) (fn : Nat) : Prop :=
  ∀ (W : World) (okp : Nat → Prop) (A : Option Addr) (n c : Nat) (ps : List S50), Kd.F k50 W okp A n ps → ps.length ≤ 20 → Calls Tryz.prog fn #[.slice A n c] W fun e w' =>
    ∃ A' c' sp, e = .returned (.slice A' sp.length c') ∧ Sp ps sp ∧ sp.length ≤ 100 ∧ Kd.F k50 w' (fun b => okp b ∨ W.heap.size ≤ b) A' sp.length sp ∧ Below W.heap.size W w'
def BuildRes (Sp : List S50 → List S50 → Prop) (l : List S58) (w : World) (en : Ending) (w' : World) : Prop :=
  ∃ v gs out, en = .returned v ∧ GOK l gs ∧ BuiltR Sp gs out ∧ out.length ≤ 2000 ∧ Kd.N k58 58 w' w.heap.size (fun _ => True) v out ∧ Below w.heap.size w w'
set_option maxHeartbeats 1000000 in
set_option maxRecDepth 100000 in
theorem c139b (Sp : List S50 → List S50 → Prop) (fn : Nat) (eg : ∀ args w, (callFunc fn args).run Tryz.prog w = .ok (.enter fn args) w) (hf : GivesSp Sp fn)
    (A : Option Addr) (n c : Nat) (l : List S58) (w : World) (hr : k58.C w A n l) (hl : l.length < 20) (hT : TabOK w) (hK : KeysAll l) (hrl : ∀ x ∈ l, x.f0.length ≤ 1000000) :
    Calls Tryz.prog 88 #[.slice A n c, .func (.func fn) #[] #[]] w (BuildRes Sp l w) := by
  obtain rfl := hr.1
  have HR := Aside0.mk hr
  have HT := Aside0.mk hT
  have HK := Lib.hid hK
  have HFN := Lib.hid hf
  clear hr hT hK hf
  go_enter Tryz.func88, Tryz.ntmps88
  go_wp2_with fail
  refine (c193 _ _ _ l _ HR.out hl HT.out HK.out).mono ?_
  rintro e W1 ⟨vg, gs, rfl, hgok, hgl, hN, hb1⟩
  obtain ⟨Ag, cg, rfl⟩ := Kd.N_slice hN
  have hgs : w.heap.size ≤ W1.heap.size := hb1.size
  have B0 := Aside0.mk hb1
  have N0 := Aside0.mk (Kd.N_mono (Kd.N_bound hN) (ok' := fun b => b < W1.heap.size) (fun _ hk => hk.2))
  have HGOK := Lib.hid hgok
  have HGP := Lib.hid (show ∀ g ∈ gs, g.f1.length ≤ 20 from fun g hg => by rw [(hgok.1.2.1 g hg).1]; have := perR_len l g.f0; omega)
  have HRL := Lib.hid (show ∀ g ∈ gs, g.f0.length ≤ 1000000 from fun g hg => by
    obtain ⟨h1, h2⟩ := hgok.1.2.1 g hg
    cases hq : perR l g.f0 with
    | nil => exact absurd (h1.trans hq) h2
    | cons p ps =>
      have hm : p ∈ perR l g.f0 := by rw [hq]; simp
      unfold perR at hm
      obtain ⟨x, hx, _⟩ := List.mem_map.1 hm
      obtain ⟨hxl, hxq⟩ := List.mem_filter.1 hx
      rw [Bool.and_eq_true] at hxq
      rw [← req_iff.1 hxq.2]
      exact hrl x hxl)
  clear hrl
  have hB1s : ∃ B1, B1 = W1.heap.size := ⟨_, rfl⟩
  obtain ⟨B1, hB1⟩ := hB1s
  have hbw : w.heap.size ≤ B1 := by omega
  have hbw1 : B1 ≤ W1.heap.size := by omega
  rw [← hB1] at N0
  clear hN hb1 hgok hgs hB1
  go_wp2
  go_loopw [5, 7, 9, 13] (fun v xg xp i wr => ∃ (k : Nat) (out : List S58), i = .int .i64 k ∧ k ≤ gs.length ∧ out.length ≤ 100 * k ∧ B1 ≤ wr.heap.size ∧ Aside0 (Below w.heap.size w wr) ∧ Aside0 (Kd.N k159 159 wr w.heap.size (fun b => b < B1) (.slice Ag gs.length cg) gs) ∧ Aside0 (Kd.N k58 58 wr B1 (fun _ => True) v out) ∧ Aside0 (BuiltR Sp (gs.take k) out)) (fun _ _ _ i _ => gs.length - (intOf i).toNat)
  case atStart => exact ⟨0, [], rfl, Nat.zero_le _, Nat.zero_le _, hbw1, B0, N0, ⟨Kd.N_nil _ _ _ _ _⟩, ⟨rfl⟩⟩
  case round =>
    clear B0 N0
    obtain ⟨k, out, rfl, hk', hol, hbr, HB, HN, HO, HV⟩ := hrel
    by_cases h1 : k < gs.length
    · have hst := Lib.hid (show gs.take (k + 1) = gs.take k ++ [rd_T159 gs k] from by rw [take_step h1]; simp [rd_T159, h1])
      have hmem : rd_T159 gs k ∈ gs := by simp [rd_T159, h1]
      have hpl := HGP.out _ hmem
      obtain ⟨xa, cc, rfl, hcl, hFK, hcc, _⟩ := Kd.F_get (Kd.N_F HN.out) z159 (k : Int) (by omega) (by omega)
      obtain ⟨A0, c0, A1, c1, hce, hl0, hF0, hl1, hF1⟩ := k159_openF (x := rd_T159 gs k) hFK
      simp only [Int.toNat_natCast] at hcc
      have x0 : wr.cell? (xa.add (k * 2)) = some (.slice A0 (rd_T159 gs k).f0.length c0) := hcc 0 _ (by rw [hce]; rfl)
      have x1 : wr.cell? ⟨(xa.add (k * 2)).block, (xa.add (k * 2)).off + 1, none⟩ = some (.slice A1 (rd_T159 gs k).f1.length c1) := by rw [← add_field _ _ 1 (by omega)]; exact hcc 1 _ (by rw [hce]; rfl)
      have xbl := World.block_lt_of_cell? _ _ x0
      have HF0 := Aside0.mk hF0
      have HF1 := Aside0.mk hF1
      have hk1 : (0 : Int) ≤ k := by omega
      have hk2 : (k : Int) < gs.length := by omega
      clear hFK hcc hce hcl hF0 hF1
      go_wp2_with fail
      refine (HFN.out _ (fun b => b < B1) A1 _ c1 (rd_T159 gs k).f1 (Kd.F_mono (Kd.F_alloc HF1.out _) (fun _ hk => hk)) hpl).mono ?_
      rintro e w2 ⟨A2, c2, sp, rfl, hsp, hspl, hFs, hb2⟩
      have hbb : (wr.alloc (.cells #[.slice A0 (rd_T159 gs k).f0.length c0, .slice A1 (rd_T159 gs k).f1.length c1] 159)).heap[wr.heap.size]? = some (.cells #[.slice A0 (rd_T159 gs k).f0.length c0, .slice A1 (rd_T159 gs k).f1.length c1] 159 (0, 0)) := blk_new _ _
      have hb21 := bel1 hb2
      have hX := blk_below hbb hb2
      have hB2 := below_step HB.out hb21
      have hN2 := Kd.N_below HN.out hb21
      have hO2 := Kd.N_below HO.out hb21
      have hF02 := Kd.F_below HF0.out hb21
      have hbr2 : B1 ≤ w2.heap.size := Nat.le_trans hbr hb21.size
      have hol2 := Kd.N_lt HO.out
      have hob := Kd.N_base HO.out
      have hFs2 := Kd.F_mono hFs (ok' := fun b => True ∧ some b ≠ u5.ownBlock) (fun b hb => ⟨trivial, fun e => by
        have h1 := hol2 b e.symm
        have h2 := hob b e.symm
        rcases hb with h3 | h3
        · have h3 : b < B1 := h3
          omega
        · have h4 : wr.heap.size < (wr.alloc (.cells #[.slice A0 (rd_T159 gs k).f0.length c0, .slice A1 (rd_T159 gs k).f1.length c1] 159)).heap.size := by simp
          omega⟩)
      have hbx : B1 ≤ wr.heap.size := hbr
      generalize wr.heap.size = bg at *
      have B0 := Aside0.mk hB2
      have N0 := Aside0.mk hN2
      have O0 := Aside0.mk hO2
      have F0 := Aside0.mk hF02
      have S0 := Aside0.mk hFs2
      have X0 := Aside0.mk hX
      have HSP := Lib.hid hsp
      clear hbb hb2 hb21 hX hB2 hN2 hO2 hF02 hol2 hob hFs2 hFs HB HN HO HF0 HF1 x0 x1 xbl hsp
      go_wp2
      go_loopw [5, 9, 22] (fun v xp i wr => ∃ (j : Nat), i = .int .i64 j ∧ j ≤ sp.length ∧ B1 ≤ wr.heap.size ∧ Aside0 (Below w.heap.size w wr) ∧ Aside0 (Kd.N k159 159 wr w.heap.size (fun b => b < B1) (.slice (some xa) gs.length cg) gs) ∧ Aside0 (Kd.N k58 58 wr B1 (fun _ => True) v (out ++ (sp.take j).map (fun p => (⟨(rd_T159 gs k).f0, p⟩ : S58)))) ∧ Aside0 (Kd.F k82 wr (fun b => b < B1) A0 (rd_T159 gs k).f0.length (rd_T159 gs k).f0) ∧ Aside0 (Kd.F k50 wr (fun b => True ∧ some b ≠ v.ownBlock) A2 sp.length sp) ∧ Aside0 (wr.heap[bg]? = some (.cells #[.slice A0 (rd_T159 gs k).f0.length c0, .slice A1 (rd_T159 gs k).f1.length c1] 159 (0, 0)))) (fun _ _ i _ => sp.length - (intOf i).toNat)
      case atStart => exact ⟨0, rfl, Nat.zero_le _, hbr2, B0, N0, ⟨by simpa using O0.out⟩, F0, S0, X0⟩
      case round =>
        clear B0 N0 O0 F0 S0 X0 hbr2
        obtain ⟨j, rfl, hj', hbr2, HB, HN, HO, HF0, HS, HX⟩ := hrel
        by_cases h2 : j < sp.length
        · have hst2 := Lib.hid (show sp.take (j + 1) = sp.take j ++ [rd_T50 sp j] from by rw [take_step h2]; simp [rd_T50, h2])
          obtain ⟨xb, rfl, p0, p1⟩ := at_T50 (Kd.F_now HS.out) (j : Int) (by omega) (by omega)
          rw [Int.toNat_natCast] at p0 p1
          have pbl := World.block_lt_of_cell? _ _ p0
          have hj1 : (0 : Int) ≤ j := by omega
          have hj2 : (j : Int) < sp.length := by omega
          go_wp2_with fail
          have hbj : Below wr.heap.size wr (wr.alloc (.cells #[.int .i64 (rd_T50 sp j).f0, .int .i64 (rd_T50 sp j).f1] 50)) := below_alloc (Below.refl _ _) _
          have hPj : (wr.alloc (.cells #[.int .i64 (rd_T50 sp j).f0, .int .i64 (rd_T50 sp j).f1] 50)).heap[wr.heap.size]? = some (.cells #[.int .i64 (rd_T50 sp j).f0, .int .i64 (rd_T50 sp j).f1] 50 (0, 0)) := blk_new _ _
          have hsz : (wr.alloc (.cells #[.int .i64 (rd_T50 sp j).f0, .int .i64 (rd_T50 sp j).f1] 50)).heap.size = wr.heap.size + 1 := by simp
          have hBj := bthen HB.out hbj
          have hNj := Kd.N_below HN.out hbj
          have hOj := Kd.N_below HO.out hbj
          have hFj := Kd.F_below HF0.out hbj
          have hSj := Kd.F_below HS.out hbj
          have hXj := blk_below HX.out hbj
          have hOb := Kd.N_base HO.out
          have hOl := Kd.N_lt HO.out
          have hbr3 : B1 ≤ (wr.alloc (.cells #[.int .i64 (rd_T50 sp j).f0, .int .i64 (rd_T50 sp j).f1] 50)).heap.size := by omega
          have hOl3 : ∀ b, u5.ownBlock = some b → b < (wr.alloc (.cells #[.int .i64 (rd_T50 sp j).f0, .int .i64 (rd_T50 sp j).f1] 50)).heap.size := fun b hb => by have := hOl b hb; omega
          clear hbj HB HN HO HF0 HS HX hOl p0 p1 pbl hsz
          generalize wr.alloc (.cells #[.int .i64 (rd_T50 sp j).f0, .int .i64 (rd_T50 sp j).f1] 50) = wj at *
          generalize wr.heap.size = bp at *
          have y0 : wj.cell? ⟨bg, 0, none⟩ = some (.slice A0 (rd_T159 gs k).f0.length c0) := by rw [blk_cell hXj]; rfl
          have q0 : wj.cell? ⟨bp, 0, none⟩ = some (.int .i64 (rd_T50 sp j).f0) := by rw [blk_cell hPj]; rfl
          have q1 : wj.cell? ⟨bp, 1, none⟩ = some (.int .i64 (rd_T50 sp j).f1) := by rw [blk_cell hPj]; rfl
          have yl : bg < wj.heap.size := World.block_lt_of_cell? _ _ y0
          have ql : bp < wj.heap.size := World.block_lt_of_cell? _ _ q0
          have ql2 : bp < wj.heap.size := World.block_lt_of_cell? _ _ q1
          have HQ := Aside0.mk (show ReadsRow (fun x cs => cs = en82 x) 3 (wj.drew.alloc (.cells #[] 82)) A0 (rd_T159 gs k).f0.length (rd_T159 gs k).f0 from ReadsRow.imp_ (Kd.F_now hFj) (below_alloc (below_drew (Below.refl _ _)) _) (fun x cs h => k82_open h))
          have HE := Aside0.mk (R_made (d := k82) (e := 82) (size := 3) (w := wj.drew.alloc (.cells #[] 82)) (base := wj.drew.heap.size) (v := .slice (some ⟨wj.drew.heap.size, 0, none⟩) 0 0) rfl (by have h := World.ownsRow_lit (base := wj.drew.heap.size) (e := 82) (size := 3) wj.drew #[] 0 (Nat.le_refl _) (by simp [maxLen]) (by simp); simpa using h))
          have BJ := Aside0.mk hBj
          have NJ := Aside0.mk hNj
          have OJ := Aside0.mk hOj
          have FJ := Aside0.mk hFj
          have SJ := Aside0.mk hSj
          have XJ := Aside0.mk hXj
          have PJ := Aside0.mk hPj
          have OB := Lib.hid hOb
          have OL3 := Lib.hid hOl3
          have hn1 : some bg ≠ some wj.heap.size := by intro e; have := Option.some.inj e; omega
          have hn2 : some bp ≠ some wj.heap.size := by intro e; have := Option.some.inj e; omega
          have HXN := Lib.hid (N_apart hOj hXj (by intro cs e; injection e with _ e2; cases e2))
          have HPN := Lib.hid (N_apart hOj hPj (by intro cs e; injection e with _ e2; cases e2))
          have hrl : (rd_T159 gs k).f0.length ≤ 1000000 := HRL.out _ hmem
          clear hBj hNj hOj hFj hSj hXj hPj hOb hOl3
          go_region_held3 (fun W => W.cell? ⟨bg, 0, none⟩ = some (.slice A0 (rd_T159 gs k).f0.length c0) ∧ W.cell? ⟨bp, 0, none⟩ = some (.int .i64 (rd_T50 sp j).f0) ∧ W.cell? ⟨bp, 1, none⟩ = some (.int .i64 (rd_T50 sp j).f1))
            (first
              | (go_split_ands; refine ⟨by go_keep, by go_keep, by go_keep⟩)
              | (go_split_ands; refine ⟨?_, ?_, ?_⟩
                 · (rw [hg2.cell_far _ (Nat.lt_of_lt_of_le yl hb.size) HXN.out]; first | assumption | (rw [hb.cell yl]; assumption))
                 · (rw [hg2.cell_far _ (Nat.lt_of_lt_of_le ql hb.size) HPN.out]; first | assumption | (rw [hb.cell ql]; assumption))
                 · (rw [hg2.cell_far _ (Nat.lt_of_lt_of_le ql2 hb.size) HPN.out]; first | assumption | (rw [hb.cell ql2]; assumption)))
              | (go_split_ands; refine ⟨?_, ?_, ?_⟩
                 · (rw [hb.cell yl]; assumption)
                 · (rw [hb.cell ql]; assumption)
                 · (rw [hb.cell ql2]; assumption)))
            (first
              | (refine Kd.R_append_rows_step k82 (Rr := fun x cs => cs = en82 x) (w0 := wj) (W := wj.drew.alloc (.cells #[] 82)) wj.drew.heap.size (by rfl) (.tmp 27) (.tmp 29) 34 82 (.agg #[(.int .i64 0), (.int .i64 0), (.string ⟨#[]⟩)]) 32 (by rfl) Tryz.underlying34 info82 (by rfl) (by decide) (by omega) (.slice (some ⟨wj.drew.heap.size, 0, none⟩) 0 0) ([] : List S82) (rd_T159 gs k).f0 A0 (rd_T159 gs k).f0.length c0 (fun _ => True) (fun _ => False) (by rfl) (by rfl) ?aO ?aR ?aK (fun _ hk => hk.elim) (fun _ _ => trivial) ?aB ?aS ?aL ?_; (case aO => exact HE.out); (case aR => exact HQ.out); (case aK => exact (fun x cs h => h ▸ k82_mkM _ _ _ x)); (case aB => exact (show Below wj.heap.size wj (wj.drew.alloc (.cells #[] 82)) from below_alloc (below_drew (Below.refl _ _)) _)); (case aS => exact (by simp)); (case aL => (rw [List.length_nil]; omega)); intro v1 W1 ho hb hg1 hat; rw [List.nil_append] at ho; obtain ⟨A7, c7, hv7⟩ := Kd.R_slice ho; subst hv7; have hb : Below wj.heap.size wj W1 := hb; have hle7 := (Kd.R_reads' ho).2.1; have HO7 := Aside0.mk (Kd.N_below OJ.out hb))
              | (refine Kd.N_append_step k58 (w0 := wj) (W := W1) B1 (by rfl) (.tmp 26) (.tmp 33) 28 58 (.agg #[(.slice none 0 0), (.int .i64 0), (.int .i64 0)]) 40 (by rfl) Tryz.underlying28 info58 (by rfl) (by decide) (by omega) u5 (out ++ (sp.take j).map (fun p => (⟨(rd_T159 gs k).f0, p⟩ : S58))) (⟨(rd_T159 gs k).f0, rd_T50 sp j⟩ : S58) [.slice A7 (rd_T159 gs k).f0.length c7, .int .i64 (rd_T50 sp j).f0, .int .i64 (rd_T50 sp j).f1] (fun _ => True) (fun b => wj.heap.size ≤ b) (by rfl) (by rfl) (k58_mkF _ _ (⟨(rd_T159 gs k).f0, rd_T50 sp j⟩ : S58) hle7 (Kd.R_F (Kd.R_mono (Kd.R_bound ho) (fun _ hk => hk.2.1)))) (fun b hk => ⟨trivial, fun e_ => by have := OL3.out b e_.symm; omega⟩) (fun _ _ => trivial) ?aO ?aB ?aS ?aL ?_; (case aO => exact HO7.out); (case aB => exact hb.mono hbr3); (case aS => exact Nat.le_trans hbr3 hb.size); (case aL => (rw [List.length_append, List.length_map, List.length_take]; omega)); intro v2 W2 ho2 hb2 hg2 hat2))
          all_goals
            go_wp2
            exact ⟨⟨j + 1, by go_num, h2, Nat.le_trans (Nat.le_trans hbr3 hb.size) hg2.size, ⟨BJ.out.trans (hb2.mono hbw)⟩, ⟨Kd.N_grown (Kd.N_below NJ.out hb) hg2 (fun b hb_ e => by have := OB.out b e.symm; omega)⟩, ⟨by rw [hst2.out, List.map_append, ← List.append_assoc]; exact ho2⟩, ⟨Kd.F_grown (Kd.F_below FJ.out hb) hg2 (fun b hb_ e => by have := OB.out b e.symm; omega)⟩, ⟨Kd.F_after (Kd.F_below SJ.out hb) hg2 hat2⟩, ⟨blk_grown (blk_below XJ.out hb) hg2 HXN.out⟩⟩, by simp [intOf]; omega⟩
        · have htk : sp.take j = sp := List.take_of_length_le (by omega)
          rw [htk] at HO
          go_wp2
          exact ⟨⟨k + 1, _, by go_num, h1, by simp; omega, hbr2, HB, HN, HO, ⟨by rw [hst.out]; exact HV.out.snoc HSP.out⟩⟩, by simp [intOf]; omega⟩
    · have htk : gs.take k = gs := List.take_of_length_le (by omega)
      rw [htk] at HV
      go_wp2
      go_ret
      exact ⟨_, gs, out, rfl, HGOK.out, HV.out, by omega, Kd.N_lower HO.out hbw, HB.out⟩
end Go.Proofs.YtiamihkfphmohaaGreatDoor.PA

namespace Go.Proofs.YtiamihkfphmohaaGreatDoor.PA
open Go.RowKit Go.Proofs.YtiamihkfphmohaaGreatDoorW.PrintWords Go.Proofs.YtiamihkfphmohaaGreatDoorW.PrintLast Go.Proofs.YtiamihkfphmohaaGreatDoorW.PrintMore

/-- The span of some periods. -/
def OfSp (ps sp : List S50) : Prop := SpanOK sp ∧ ∀ t, sc sp t = (decide (0 ≤ t ∧ t < 1099511627776) && sc ps t)
theorem gives63 : GivesSp OfSp 63 := by
  intro W okp A n c ps hF hl
  refine (c119 A n c ps W (Kd.F_now hF) (by omega)).mono ?_
  rintro e w' ⟨v, r, rfl, h1, h2, h3, hR, hb⟩
  obtain ⟨A', c', rfl⟩ := Kd.R_slice hR
  exact ⟨A', c', r, rfl, ⟨h1, h2⟩, by simp at h3; omega, Kd.R_F (Kd.R_mono (Kd.R_bound hR) (fun _ hk => .inr hk.2.1)), hb⟩
theorem ent63 : ∀ args w, (callFunc 63 args).run Tryz.prog w = .ok (.enter 63 args) w := enters_of Tryz.func63 (by kernel_rfl) rfl
set_option maxHeartbeats 600000 in
theorem c74 (A : Option Addr) (n c : Nat) (l : List S58) (w : World) (hr : k58.C w A n l) (hl : l.length < 20) (hT : TabOK w) (hK : KeysAll l) (hrl : ∀ x ∈ l, x.f0.length ≤ 1000000) :
    Calls Tryz.prog 51 #[.slice A n c] w (BuildRes OfSp l w) := by
  have HR := Aside0.mk hr
  have HT := Aside0.mk hT
  have HK := Lib.hid hK
  have HL := Lib.hid hrl
  clear hr hT hK hrl
  go_enter Tryz.func51, Tryz.ntmps51
  go_wp2_with fail
  refine (c139b OfSp 63 ent63 gives63 _ _ _ l _ HR.out hl HT.out HK.out HL.out).mono ?_
  rintro e w1 ⟨v, gs, out, rfl, h1, h2, h3, h4, h5⟩
  have R := Aside0.mk (And.intro h1 (And.intro h2 (And.intro h3 (And.intro h4 h5))))
  clear h1 h2 h3 h4 h5
  go_wp2
  go_ret
  exact ⟨v, gs, out, rfl, R.out.1, R.out.2.1, R.out.2.2.1, R.out.2.2.2.1, R.out.2.2.2.2⟩
end Go.Proofs.YtiamihkfphmohaaGreatDoor.PA

namespace Go.Proofs.YtiamihkfphmohaaGreatDoor.PA
open Go.RowKit Go.Proofs.YtiamihkfphmohaaGreatDoorW.PrintWords Go.Proofs.YtiamihkfphmohaaGreatDoorW.PrintLast Go.Proofs.YtiamihkfphmohaaGreatDoorW.PrintMore

/-- A row's own is written (of violations): the crowds stay. -/
theorem Crd.own {W W' : World} {base mo n : Nat} {dm : List UInt8 → Bool} {g : List UInt8 → List S50} {v : Value} {xs : List S52} {b1 : Nat} {ok : Nat → Prop} (h : Crd W base mo n dm g) (hv : Kd.N k52 52 W b1 ok v xs) (hg : W.grownBy W' v.ownBlock) : Crd W' base mo n dm g := by
  have ht := Kd.N_typed hv
  cases hq : v.ownBlock with
  | none =>
    rw [hq] at hg
    exact h.below ⟨hg.os, hg.tape, hg.output, hg.size, fun k hk => hg.block k hk (by simp)⟩
  | some x =>
    rw [hq] at hg
    obtain ⟨cells, hc⟩ := ht x hq
    refine h.grown hg hc (by intro cs e; injection e with _ e2; cases e2) ?_
    obtain ⟨es, clock, hm⟩ := h.blk
    rintro rfl
    rw [hm] at hc
    cases Option.some.inj hc
/-- The instants of a period at which the crowd of its row's key is. -/
def VSp (cols : List Int) (l : List S58) (x : S58) (sp : List S50) : Prop :=
  ∃ cr, CrowdOf (perS cols l (encK (pick x.f0 cols))) cr ∧ SpanOK sp ∧ ∀ t, sc sp t = (decide (0 ≤ t ∧ t < 1099511627776) && (sc [x.f1] t && sc cr t))
def vio (nm : ByteArray) (row : List S82) (p : S50) : S52 := ⟨2, nm, 0, row, p⟩
def ViolR (nm : ByteArray) (Sp : S58 → List S50 → Prop) : List S58 → List S52 → Prop
  | [], out => out = []
  | x :: fs, out => ∃ sp rest, Sp x sp ∧ out = sp.map (vio nm x.f0) ++ rest ∧ ViolR nm Sp fs rest
theorem ViolR.snoc {nm : ByteArray} {Sp : S58 → List S50 → Prop} : ∀ {fs : List S58} {out : List S52} {x : S58} {sp : List S50}, ViolR nm Sp fs out → Sp x sp → ViolR nm Sp (fs ++ [x]) (out ++ sp.map (vio nm x.f0))
  | [], out, x, sp, h, hs => by
    have h : out = [] := h
    subst h
    exact ⟨sp, [], hs, by simp, rfl⟩
  | y :: fs, out, x, sp, h, hs => by
    obtain ⟨sp', rest, h1, rfl, h3⟩ := h
    exact ⟨sp', rest ++ sp.map (vio nm x.f0), h1, by rw [List.append_assoc], h3.snoc hs⟩
def VioRes (nm : ByteArray) (cols : List Int) (l : List S58) (w : World) (en : Ending) (w' : World) : Prop :=
  ∃ v gs facts out, en = .returned v ∧ GOK l gs ∧ BuiltR OfSp gs facts ∧ ViolR nm (VSp cols l) facts out ∧ out.length ≤ 2000000 ∧ Kd.N k52 52 w' w.heap.size (fun _ => True) v out ∧ Below w.heap.size w w'
theorem built_row {Sp : List S50 → List S50 → Prop} : ∀ {gs : List S159} {out : List S58}, BuiltR Sp gs out → ∀ x ∈ out, ∃ g ∈ gs, g.f0 = x.f0
  | [], out, h, x, hx => by
    have h : out = [] := h
    subst h
    simp at hx
  | g :: gs, out, h, x, hx => by
    obtain ⟨sp, rest, _, rfl, h3⟩ := h
    rcases List.mem_append.1 hx with hx | hx
    · obtain ⟨p, _, rfl⟩ := List.mem_map.1 hx
      exact ⟨g, List.mem_cons_self, rfl⟩
    · obtain ⟨g', hg, he⟩ := built_row h3 x hx
      exact ⟨g', List.mem_cons_of_mem _ hg, he⟩
theorem gok_row {l : List S58} {gs : List S159} (h : GOK l gs) {g : S159} (hg : g ∈ gs) : ∃ x ∈ l, x.f0 = g.f0 := by
  obtain ⟨h1, h2⟩ := h.1.2.1 g hg
  cases hq : perR l g.f0 with
  | nil => exact absurd (h1.trans hq) h2
  | cons p ps =>
    have hm : p ∈ perR l g.f0 := by rw [hq]; simp
    unfold perR at hm
    obtain ⟨x, hx, _⟩ := List.mem_map.1 hm
    obtain ⟨hxl, hxq⟩ := List.mem_filter.1 hx
    rw [Bool.and_eq_true] at hxq
    exact ⟨x, hxl, req_iff.1 hxq.2⟩
theorem C_one {W : World} {g : Nat} {p : S50} (h : W.heap[g]? = some (.cells #[.int .i64 p.f0, .int .i64 p.f1] 50 (0, 0))) : k50.C W (some ⟨g, 0, none⟩) 1 [p] := by
  refine ⟨rfl, by omega, fun _ => ⟨_, rfl, fun j q hj => ?_⟩⟩
  have hj0 : j = 0 := by
    have := (List.getElem?_eq_some_iff.1 hj).1
    simpa using this
  subst hj0
  obtain rfl := Option.some.inj hj
  refine ⟨[.int .i64 p.f0, .int .i64 p.f1], rfl, k50_mk W p, fun i u hu => ?_⟩
  rw [add_plain, blk_cell h]
  simpa using hu
set_option maxHeartbeats 1000000 in
set_option maxRecDepth 100000 in
theorem c33 (nm : ByteArray) (vc vf vk : Value) (A2 : Option Addr) (n2 c2 : Nat) (cols : List Int) (A : Option Addr) (n c : Nat) (l : List S58) (w : World)
    (hc : (Kd.int .i64).C w A2 n2 cols) (hcl : cols.length ≤ 1000000) (hr : k58.C w A n l) (hl : l.length < 20) (hT : TabOK w) (hK : KeysIn cols l) (hKA : KeysAll l) (hrl : ∀ x ∈ l, x.f0.length ≤ 1000000) :
    Calls Tryz.prog 18 #[.agg #[.string nm, vc, .slice A2 n2 c2, vf, vk], .slice A n c] w (VioRes nm cols l w) := by
  obtain rfl := hr.1
  obtain rfl := hc.1
  have HR := Aside0.mk hr
  have HC := Aside0.mk hc
  have HT := Aside0.mk hT
  have HK := Lib.hid hK
  have HKA := Lib.hid hKA
  have HRL := Lib.hid hrl
  clear hr hc hT hK hKA hrl
  go_enter Tryz.func18, Tryz.ntmps18
  go_wp2_with fail
  have hb0 : Below w.heap.size w (w.alloc (.cells #[.string nm, vc, .slice A2 cols.length c2, vf, vk] 27)) := below_alloc (Below.refl _ _) _
  refine (c109 nm vc vf vk A2 _ c2 cols A _ c l _ (Kd.C_below HC.out hb0) hcl (Kd.C_below HR.out hb0) (by omega) (tab_below HT.out hb0) HK.out).mono ?_
  rintro e w1 ⟨mo, N, rfl, hN, hcrd, hb1⟩
  have hbb := blk_below (blk_new w (.cells #[.string nm, vc, .slice A2 cols.length c2, vf, vk] 27)) hb1
  have hb11 := bel1 hb1
  have hbs0 : w.heap.size < (w.alloc (.cells #[.string nm, vc, .slice A2 cols.length c2, vf, vk] 27)).heap.size := by simp
  have hbase : (w.alloc (.cells #[.string nm, vc, .slice A2 cols.length c2, vf, vk] 27)).heap.size ≤ w1.heap.size := hb1.size
  generalize (w.alloc (.cells #[.string nm, vc, .slice A2 cols.length c2, vf, vk] 27)).heap.size = bs at *
  have HCRD := Aside0.mk hcrd
  have HTB := Aside0.mk hbb
  have HB1 := Aside0.mk hb11
  clear hcrd hbb hb1 hb0
  go_wp2_with fail
  refine (c74 A _ c l _ (Kd.C_below HR.out HB1.out) hl (tab_below HT.out HB1.out) HKA.out HRL.out).mono ?_
  rintro e w2 ⟨vf0, gs, facts, rfl, hgok, hbu, hfl, hNf, hb2⟩
  obtain ⟨Af, cf, rfl⟩ := Kd.N_slice hNf
  have hcr2 := HCRD.out.below hb2
  have htb2 := blk_below HTB.out hb2
  have hB2 := bthen HB1.out hb2
  have hwl : w.heap.size < w2.heap.size := blk_lt htb2
  have HGOK := Lib.hid hgok
  have HBU := Lib.hid hbu
  have HROW := Lib.hid (show ∀ x ∈ facts, ∃ y ∈ l, y.f0 = x.f0 from fun x hx => by
    obtain ⟨g, hg, he⟩ := built_row hbu x hx
    obtain ⟨y, hy, he2⟩ := gok_row hgok hg
    exact ⟨y, hy, he2.trans he⟩)
  have C0 := Aside0.mk hcr2
  have T0 := Aside0.mk htb2
  have B0 := Aside0.mk hB2
  have N0 := Aside0.mk (Kd.N_mono (Kd.N_bound hNf) (ok' := fun b => b < w2.heap.size) (fun _ hk => hk.2))
  obtain ⟨B1, hB1⟩ : ∃ B1, B1 = w2.heap.size := ⟨_, rfl⟩
  have hbw : w.heap.size < B1 := by omega
  have hbw1 : B1 ≤ w2.heap.size := by omega
  have hbase2 : w.heap.size < bs := hbs0
  rw [← hB1] at N0
  obtain ⟨bn, hbn⟩ : ∃ bn, bn = w1.heap.size := ⟨_, rfl⟩
  have hbnw : w.heap.size ≤ bn := by rw [hbn]; exact HB1.out.size
  rw [← hbn] at N0
  clear HCRD HTB HB1 hcr2 htb2 hB2 hNf hb2 hgok hbu hbn hwl hB1 hbase hbs0
  go_wp2
  go_loopw [6, 8, 10, 17] (fun v xf xp i wr => ∃ (k : Nat) (out : List S52), i = .int .i64 k ∧ k ≤ facts.length ∧ out.length ≤ 100 * k ∧ B1 ≤ wr.heap.size ∧ Aside0 (Below w.heap.size w wr) ∧ Aside0 (Kd.N k58 58 wr bn (fun b => b < B1) (.slice Af facts.length cf) facts) ∧ Aside0 (Kd.N k52 52 wr B1 (fun _ => True) v out) ∧ Aside0 (Crd wr bs mo N (fun s => decide (perS cols l s ≠ [])) (perS cols l)) ∧ Aside0 (wr.heap[w.heap.size]? = some (.cells #[.string nm, vc, .slice A2 cols.length c2, vf, vk] 27 (0, 0))) ∧ Aside0 (ViolR nm (VSp cols l) (facts.take k) out)) (fun _ _ _ i _ => facts.length - (intOf i).toNat)
  case atStart => exact ⟨0, [], rfl, Nat.zero_le _, Nat.zero_le _, hbw1, B0, N0, ⟨Kd.N_nil _ _ _ _ _⟩, C0, T0, ⟨rfl⟩⟩
  case round =>
    clear B0 N0 C0 T0
    obtain ⟨k, out, rfl, hk', hol, hbr, HB, HN, HO, HCR, HT1, HV⟩ := hrel
    by_cases h1 : k < facts.length
    · have hst := Lib.hid (show facts.take (k + 1) = facts.take k ++ [rd_T58 facts k] from by rw [take_step h1]; simp [rd_T58, h1])
      have hmem : rd_T58 facts k ∈ facts := by simp [rd_T58, h1]
      obtain ⟨yy, hyl, hye⟩ := HROW.out _ hmem
      obtain ⟨xa, cc, rfl, hcl0, hFK, hcc, _⟩ := Kd.F_get (Kd.N_F HN.out) z58 (k : Int) (by omega) (by omega)
      obtain ⟨A3, c3, hce, hl0, hF0⟩ := k58_openF (x := rd_T58 facts k) hFK
      simp only [Int.toNat_natCast] at hcc
      have x0 : wr.cell? (xa.add (k * 3)) = some (.slice A3 (rd_T58 facts k).f0.length c3) := hcc 0 _ (by rw [hce]; rfl)
      have x1 : wr.cell? ⟨(xa.add (k * 3)).block, (xa.add (k * 3)).off + 1, none⟩ = some (.int .i64 (rd_T58 facts k).f1.f0) := by rw [← add_field _ _ 1 (by omega)]; exact hcc 1 _ (by rw [hce]; rfl)
      have x2 : wr.cell? ⟨(xa.add (k * 3)).block, (xa.add (k * 3)).off + 2, none⟩ = some (.int .i64 (rd_T58 facts k).f1.f1) := by rw [← add_field _ _ 2 (by omega)]; exact hcc 2 _ (by rw [hce]; rfl)
      have xbl := World.block_lt_of_cell? _ _ x0
      have HF0 := Aside0.mk hF0
      have hk1 : (0 : Int) ≤ k := by omega
      have hk2 : (k : Int) < facts.length := by omega
      clear hFK hcc hce hcl0 hF0
      go_wp2_with fail
      have hbj : Below wr.heap.size wr (wr.alloc (.cells #[.slice A3 (rd_T58 facts k).f0.length c3, .int .i64 (rd_T58 facts k).f1.f0, .int .i64 (rd_T58 facts k).f1.f1] 58)) := below_alloc (Below.refl _ _) _
      have hFj : (wr.alloc (.cells #[.slice A3 (rd_T58 facts k).f0.length c3, .int .i64 (rd_T58 facts k).f1.f0, .int .i64 (rd_T58 facts k).f1.f1] 58)).heap[wr.heap.size]? = some (.cells #[.slice A3 (rd_T58 facts k).f0.length c3, .int .i64 (rd_T58 facts k).f1.f0, .int .i64 (rd_T58 facts k).f1.f1] 58 (0, 0)) := blk_new _ _
      have hBj := bthen HB.out hbj
      have hNj := Kd.N_below HN.out hbj
      have hOj := Kd.N_below HO.out hbj
      have hF0j := Kd.F_below HF0.out hbj
      have hCj := HCR.out.below hbj
      have hTj := blk_below HT1.out hbj
      have hOb := Kd.N_base HO.out
      have hOl := Kd.N_lt HO.out
      have hbr3 : B1 ≤ (wr.alloc (.cells #[.slice A3 (rd_T58 facts k).f0.length c3, .int .i64 (rd_T58 facts k).f1.f0, .int .i64 (rd_T58 facts k).f1.f1] 58)).heap.size := by simp; omega
      have hOl3 : ∀ b, u6.ownBlock = some b → b < (wr.alloc (.cells #[.slice A3 (rd_T58 facts k).f0.length c3, .int .i64 (rd_T58 facts k).f1.f0, .int .i64 (rd_T58 facts k).f1.f1] 58)).heap.size := fun b hb => by have := hOl b hb; simp; omega
      have hbfw : w.heap.size < wr.heap.size := by omega
      clear hbj HB HN HO HF0 HCR HT1 hOl x0 x1 x2 xbl
      generalize wr.alloc (.cells #[.slice A3 (rd_T58 facts k).f0.length c3, .int .i64 (rd_T58 facts k).f1.f0, .int .i64 (rd_T58 facts k).f1.f1] 58) = wj at *
      generalize wr.heap.size = bf at *
      have y0 : wj.cell? ⟨bf, 0, none⟩ = some (.slice A3 (rd_T58 facts k).f0.length c3) := by rw [blk_cell hFj]; rfl
      have y1 : wj.cell? ⟨bf, 1, none⟩ = some (.int .i64 (rd_T58 facts k).f1.f0) := by rw [blk_cell hFj]; rfl
      have y2 : wj.cell? ⟨bf, 2, none⟩ = some (.int .i64 (rd_T58 facts k).f1.f1) := by rw [blk_cell hFj]; rfl
      have t0 : wj.cell? ⟨w.heap.size, 0, none⟩ = some (.string nm) := by rw [blk_cell hTj]; rfl
      have t1 : wj.cell? ⟨w.heap.size, 1, none⟩ = some vc := by rw [blk_cell hTj]; rfl
      have t2 : wj.cell? ⟨w.heap.size, 2, none⟩ = some (.slice A2 cols.length c2) := by rw [blk_cell hTj]; rfl
      have t3 : wj.cell? ⟨w.heap.size, 3, none⟩ = some vf := by rw [blk_cell hTj]; rfl
      have t4 : wj.cell? ⟨w.heap.size, 4, none⟩ = some vk := by rw [blk_cell hTj]; rfl
      have yl : bf < wj.heap.size := World.block_lt_of_cell? _ _ y0
      have tl : w.heap.size < wj.heap.size := World.block_lt_of_cell? _ _ t0
      -- the crowd of the fact's key
      have hkin := HK.out yy hyl
      rw [hye] at hkin
      obtain ⟨hin, hkl⟩ := hkin
      have HIN := Lib.hid hin
      have hCC := hCj
      obtain ⟨hbm, f, hV, hdm, hcr⟩ := hCC
      have hkey : (⟨(encK (pick (rd_T58 facts k).f0 cols)).toArray⟩ : ByteArray).data.toList = encK (pick (rd_T58 facts k).f0 cols) := rfl
      have hksz : (⟨(encK (pick (rd_T58 facts k).f0 cols)).toArray⟩ : ByteArray).size ≤ maxLen := by show (encK (pick (rd_T58 facts k).f0 cols)).toArray.size ≤ maxLen; rw [List.size_toArray]; unfold maxLen; omega
      have hne : perS cols l (encK (pick (rd_T58 facts k).f0 cols)) ≠ [] := by
        unfold perS
        intro e
        rw [List.map_eq_nil_iff, List.filter_eq_nil_iff] at e
        exact e yy hyl (by rw [hye]; simp)
      obtain ⟨vcr, hfk⟩ := Option.isSome_iff_exists.1 ((hdm _).trans (decide_eq_true hne))
      obtain ⟨sp0, hcro, hR5⟩ := hcr _ vcr hfk
      obtain ⟨A5, c5, rfl⟩ := Kd.R_slice hR5
      have hspl : sp0.length ≤ 41 := by have := hcro.2.2; have := perS_len cols l (encK (pick (rd_T58 facts k).f0 cols)); omega
      have hz : ∀ W, (zeroValue 41).run Tryz.prog W = .ok (.slice none 0 0) W := fun W => by kernel_rfl
      generalize hKS : (⟨(encK (pick (rd_T58 facts k).f0 cols)).toArray⟩ : ByteArray) = KS at *
      have hLq : ∀ W, W.heap[mo]? = wj.heap[mo]? → (Instr.lookup 84 (.map (some mo)) (.string KS) false).run Tryz.prog W = .ok (.slice A5 sp0.length c5) W := fun W hW => by
        have h := (hV.blk hW).lookup Tryz.underlying84 (hz W) KS hksz
        rw [hkey, hfk] at h
        exact h
      have hmol := hV.lt
      have BJ := Aside0.mk hBj
      have NJ := Aside0.mk hNj
      have OJ := Aside0.mk hOj
      have FJ := Aside0.mk hF0j
      have CJ := Aside0.mk hCj
      have TJ := Aside0.mk hTj
      have XJ := Aside0.mk hFj
      have RC := Aside0.mk hR5
      have HCO := Lib.hid hcro
      have HLQ := Lib.hid hLq
      have OB := Lib.hid hOb
      have OL3 := Lib.hid hOl3
      clear hBj hNj hOj hF0j hCj hTj hFj hOb hOl3 hV hdm hcr hfk hR5 hcro hLq hne hin hye hyl hkey hksz
      go_region_held3 (fun W => Below wj.heap.size wj W ∧ W.cell? ⟨bf, 0, none⟩ = some (.slice A3 (rd_T58 facts k).f0.length c3) ∧ W.cell? ⟨bf, 1, none⟩ = some (.int .i64 (rd_T58 facts k).f1.f0) ∧ W.cell? ⟨bf, 2, none⟩ = some (.int .i64 (rd_T58 facts k).f1.f1) ∧ W.cell? ⟨w.heap.size, 0, none⟩ = some (.string nm) ∧ W.cell? ⟨w.heap.size, 1, none⟩ = some vc ∧ W.cell? ⟨w.heap.size, 2, none⟩ = some (.slice A2 cols.length c2) ∧ W.cell? ⟨w.heap.size, 3, none⟩ = some vf ∧ W.cell? ⟨w.heap.size, 4, none⟩ = some vk)
        (first
          | (go_split_ands; refine ⟨?_, ?_, ?_, ?_, ?_, ?_, ?_, ?_, ?_⟩ <;> first | exact bthen (by assumption) hbc | exact pw_cell_below hbc (by assumption))
          | (go_split_ands; refine ⟨?_, ?_, ?_, ?_, ?_, ?_, ?_, ?_, ?_⟩ <;> first | exact below_drew (Below.refl _ _) | exact below_alloc (by assumption) _ | go_keep))
        (first
          | (go_at_call 54; refine (c112 nm vc vf vk A2 _ c2 cols A3 _ c3 (rd_T58 facts k).f0 _ (Kd.C_below (Kd.F_now FJ.out) (And.left (by assumption))) (Kd.C_below HC.out (bthen BJ.out (And.left (by assumption)))) hcl).mono ?_; rintro e w5 ⟨v8, rfl, hR8, hb8⟩; obtain ⟨A8, c8, rfl⟩ := Kd.R_slice hR8; have hbc := hb8)
          | (go_at_call 53; refine (c111 A8 _ c8 (pick (rd_T58 facts k).f0 cols) _ (by first | exact (Kd.R_reads' hR8).2.2 | exact Kd.C_below (Kd.R_reads' hR8).2.2 (below_alloc (Below.refl _ _) _)) (tab_below HT.out (bthen BJ.out (And.left (by assumption)))) HIN.out hkl).mono ?_; rintro e w6 ⟨rfl, hb9⟩; clear hbc; have hbc := hb9; have hbw6 : Below wj.heap.size wj w6 := bthen (And.left (by assumption)) hb9; have hlk1 := HLQ.out w6 (hbw6.block _ hmol); have hlk2 := HLQ.out (w6.alloc (.cells #[.int .i64 (rd_T58 facts k).f1.f0, .int .i64 (rd_T58 facts k).f1.f1] 50)) ((Below.heap_alloc _ _ _ (Nat.lt_of_lt_of_le hmol hbw6.size)).trans (hbw6.block _ hmol)); rw [hKS])
          | (go_at_call 52; refine (c110 _ _ _ [(rd_T58 facts k).f1] A5 _ c5 sp0 _ (C_one (by first | exact blk_new _ _ | exact blk_below (blk_new _ _) hb9 | exact blk_below (blk_below (blk_drew (blk_new _ _)) hb8) hb9)) (Kd.C_below (Kd.R_reads' RC.out).2.2 (And.left (by assumption))) (by simp) (by omega)).mono ?_; rintro e w7 ⟨v9, r, rfl, hr1, hr2, hr3, hr4, hb10⟩; obtain ⟨A9, c9, rfl⟩ := Kd.R_slice hr4; clear hbc; have hbc := hb10; have hbw7 : Below wj.heap.size wj w7 := bthen (And.left (by assumption)) hb10; have hFr : Kd.F k50 w7 (fun b => wj.heap.size ≤ b) A9 r.length r := Kd.R_F (Kd.R_mono (Kd.R_bound hr4) (fun _ hk => Nat.le_trans (Below.size (And.left (by assumption))) hk.2.1))))
      all_goals
        have hvs := Lib.hid (show VSp cols l (rd_T58 facts k) r from ⟨sp0, HCO.out, hr1, hr2⟩)
        have hrl : r.length ≤ 100 := by simp at hr3; omega
        have B0 := Aside0.mk (bthen BJ.out hbw7)
        have N0 := Aside0.mk (Kd.N_below NJ.out hbw7)
        have O0 := Aside0.mk (Kd.N_below OJ.out hbw7)
        have F0 := Aside0.mk (Kd.F_below FJ.out hbw7)
        have C0 := Aside0.mk (CJ.out.below hbw7)
        have T0 := Aside0.mk (blk_below TJ.out hbw7)
        have X0 := Aside0.mk (blk_below XJ.out hbw7)
        have S0 := Aside0.mk (Kd.F_mono hFr (ok' := fun b => True ∧ some b ≠ u6.ownBlock) (fun b hb => ⟨trivial, fun e => by have := OL3.out b e.symm; omega⟩))
        have hbr2 : B1 ≤ w7.heap.size := Nat.le_trans hbr3 hbw7.size
        clear hr1 hr2 hr3 hr4 hb8 hb9 hb10 hbc hbw6 hbw7 hFr hlk1 hlk2 hR8 y0 y1 y2 t0 t1 t2 t3 t4 BJ NJ OJ FJ CJ TJ XJ RC HCO HLQ OL3 OB hbr3 hmol
        go_wp2
        go_loopw [6, 10, 33] (fun v xp i wr => ∃ (j : Nat), i = .int .i64 j ∧ j ≤ r.length ∧ B1 ≤ wr.heap.size ∧ Aside0 (Below w.heap.size w wr) ∧ Aside0 (Kd.N k58 58 wr bn (fun b => b < B1) (.slice (some xa) facts.length cf) facts) ∧ Aside0 (Kd.N k52 52 wr B1 (fun _ => True) v (out ++ (r.take j).map (vio nm (rd_T58 facts k).f0))) ∧ Aside0 (Kd.F k82 wr (fun b => b < B1) A3 (rd_T58 facts k).f0.length (rd_T58 facts k).f0) ∧ Aside0 (Kd.F k50 wr (fun b => True ∧ some b ≠ v.ownBlock) A9 r.length r) ∧ Aside0 (Crd wr bs mo N (fun s => decide (perS cols l s ≠ [])) (perS cols l)) ∧ Aside0 (wr.heap[w.heap.size]? = some (.cells #[.string nm, vc, .slice A2 cols.length c2, vf, vk] 27 (0, 0))) ∧ Aside0 (wr.heap[bf]? = some (.cells #[.slice A3 (rd_T58 facts k).f0.length c3, .int .i64 (rd_T58 facts k).f1.f0, .int .i64 (rd_T58 facts k).f1.f1] 58 (0, 0)))) (fun _ _ i _ => r.length - (intOf i).toNat)
        case atStart => exact ⟨0, rfl, Nat.zero_le _, hbr2, B0, N0, ⟨by simpa using O0.out⟩, F0, S0, C0, T0, X0⟩
        case round =>
          clear B0 N0 O0 F0 S0 C0 T0 X0 hbr2
          obtain ⟨j, rfl, hj', hbr2, HB, HN, HO, HF0, HS, HCR, HT1, HX⟩ := hrel
          by_cases h2 : j < r.length
          · have hst2 := Lib.hid (show r.take (j + 1) = r.take j ++ [rd_T50 r j] from by rw [take_step h2]; simp [rd_T50, h2])
            obtain ⟨xb, rfl, p0, p1⟩ := at_T50 (Kd.F_now HS.out) (j : Int) (by omega) (by omega)
            rw [Int.toNat_natCast] at p0 p1
            have pbl := World.block_lt_of_cell? _ _ p0
            have hj1 : (0 : Int) ≤ j := by omega
            have hj2 : (j : Int) < r.length := by omega
            go_wp2_with fail
            have hbj : Below wr.heap.size wr (wr.alloc (.cells #[.int .i64 (rd_T50 r j).f0, .int .i64 (rd_T50 r j).f1] 50)) := below_alloc (Below.refl _ _) _
            have hPj : (wr.alloc (.cells #[.int .i64 (rd_T50 r j).f0, .int .i64 (rd_T50 r j).f1] 50)).heap[wr.heap.size]? = some (.cells #[.int .i64 (rd_T50 r j).f0, .int .i64 (rd_T50 r j).f1] 50 (0, 0)) := blk_new _ _
            have hsz : (wr.alloc (.cells #[.int .i64 (rd_T50 r j).f0, .int .i64 (rd_T50 r j).f1] 50)).heap.size = wr.heap.size + 1 := by simp
            have hBj := bthen HB.out hbj
            have hNj := Kd.N_below HN.out hbj
            have hOj := Kd.N_below HO.out hbj
            have hFj := Kd.F_below HF0.out hbj
            have hSj := Kd.F_below HS.out hbj
            have hCj := HCR.out.below hbj
            have hTj := blk_below HT1.out hbj
            have hXj := blk_below HX.out hbj
            have hOb := Kd.N_base HO.out
            have hOl := Kd.N_lt HO.out
            have hbr3 : B1 ≤ (wr.alloc (.cells #[.int .i64 (rd_T50 r j).f0, .int .i64 (rd_T50 r j).f1] 50)).heap.size := by omega
            have hOl3 : ∀ b, u6.ownBlock = some b → b < (wr.alloc (.cells #[.int .i64 (rd_T50 r j).f0, .int .i64 (rd_T50 r j).f1] 50)).heap.size := fun b hb => by have := hOl b hb; omega
            clear hbj HB HN HO HF0 HS HCR HT1 HX hOl p0 p1 pbl hsz
            generalize wr.alloc (.cells #[.int .i64 (rd_T50 r j).f0, .int .i64 (rd_T50 r j).f1] 50) = wq at *
            generalize wr.heap.size = bp at *
            have y0 : wq.cell? ⟨bf, 0, none⟩ = some (.slice A3 (rd_T58 facts k).f0.length c3) := by rw [blk_cell hXj]; rfl
            have t0 : wq.cell? ⟨w.heap.size, 0, none⟩ = some (.string nm) := by rw [blk_cell hTj]; rfl
            have q0 : wq.cell? ⟨bp, 0, none⟩ = some (.int .i64 (rd_T50 r j).f0) := by rw [blk_cell hPj]; rfl
            have q1 : wq.cell? ⟨bp, 1, none⟩ = some (.int .i64 (rd_T50 r j).f1) := by rw [blk_cell hPj]; rfl
            have yl2 : bf < wq.heap.size := World.block_lt_of_cell? _ _ y0
            have tl2 : w.heap.size < wq.heap.size := World.block_lt_of_cell? _ _ t0
            have ql2 : bp < wq.heap.size := World.block_lt_of_cell? _ _ q0
            have HQ := Aside0.mk (show ReadsRow (fun x cs => cs = en82 x) 3 (wq.drew.alloc (.cells #[] 82)) A3 (rd_T58 facts k).f0.length (rd_T58 facts k).f0 from ReadsRow.imp_ (Kd.F_now hFj) (below_alloc (below_drew (Below.refl _ _)) _) (fun x cs h => k82_open h))
            have HE := Aside0.mk (R_made (d := k82) (e := 82) (size := 3) (w := wq.drew.alloc (.cells #[] 82)) (base := wq.drew.heap.size) (v := .slice (some ⟨wq.drew.heap.size, 0, none⟩) 0 0) rfl (by have h := World.ownsRow_lit (base := wq.drew.heap.size) (e := 82) (size := 3) wq.drew #[] 0 (Nat.le_refl _) (by simp [maxLen]) (by simp); simpa using h))
            have BJ := Aside0.mk hBj
            have NJ := Aside0.mk hNj
            have OJ := Aside0.mk hOj
            have FJ := Aside0.mk hFj
            have SJ := Aside0.mk hSj
            have CJ := Aside0.mk hCj
            have TJ := Aside0.mk hTj
            have XJ := Aside0.mk hXj
            have PJ := Aside0.mk hPj
            have OB := Lib.hid hOb
            have OL3 := Lib.hid hOl3
            have HXN := Lib.hid (N_apart hOj hXj (by intro cs e; injection e with _ e2; cases e2))
            have HTN := Lib.hid (N_apart hOj hTj (by intro cs e; injection e with _ e2; cases e2))
            have HPN := Lib.hid (N_apart hOj hPj (by intro cs e; injection e with _ e2; cases e2))
            have hrl3 : (rd_T58 facts k).f0.length ≤ 1000000 := by
              obtain ⟨yy, hyl, hye⟩ := HROW.out _ hmem
              rw [← hye]
              exact HRL.out yy hyl
            clear hBj hNj hOj hFj hSj hCj hTj hXj hPj hOb hOl3
            go_region_held3 (fun W => W.cell? ⟨bf, 0, none⟩ = some (.slice A3 (rd_T58 facts k).f0.length c3) ∧ W.cell? ⟨w.heap.size, 0, none⟩ = some (.string nm) ∧ W.cell? ⟨bp, 0, none⟩ = some (.int .i64 (rd_T50 r j).f0) ∧ W.cell? ⟨bp, 1, none⟩ = some (.int .i64 (rd_T50 r j).f1))
              (first
                | (go_split_ands; refine ⟨by go_keep, by go_keep, by go_keep, by go_keep⟩)
                | (go_split_ands; refine ⟨?_, ?_, ?_, ?_⟩
                   · (rw [hg2.cell_far _ (Nat.lt_of_lt_of_le yl2 hb.size) HXN.out]; first | assumption | (rw [hb.cell yl2]; assumption))
                   · (rw [hg2.cell_far _ (Nat.lt_of_lt_of_le tl2 hb.size) HTN.out]; first | assumption | (rw [hb.cell tl2]; assumption))
                   · (rw [hg2.cell_far _ (Nat.lt_of_lt_of_le ql2 hb.size) HPN.out]; first | assumption | (rw [hb.cell ql2]; assumption))
                   · (rw [hg2.cell_far _ (Nat.lt_of_lt_of_le ql2 hb.size) HPN.out]; first | assumption | (rw [hb.cell ql2]; assumption)))
                | (go_split_ands; refine ⟨?_, ?_, ?_, ?_⟩
                   · (rw [hb.cell yl2]; assumption)
                   · (rw [hb.cell tl2]; assumption)
                   · (rw [hb.cell ql2]; assumption)
                   · (rw [hb.cell ql2]; assumption)))
              (first
                | (refine Kd.R_append_rows_step k82 (Rr := fun x cs => cs = en82 x) (w0 := wq) (W := wq.drew.alloc (.cells #[] 82)) wq.drew.heap.size (by rfl) (.tmp 40) (.tmp 42) 34 82 (.agg #[(.int .i64 0), (.int .i64 0), (.string ⟨#[]⟩)]) 32 (by rfl) Tryz.underlying34 info82 (by rfl) (by decide) (by omega) (.slice (some ⟨wq.drew.heap.size, 0, none⟩) 0 0) ([] : List S82) (rd_T58 facts k).f0 A3 (rd_T58 facts k).f0.length c3 (fun _ => True) (fun _ => False) (by rfl) (by rfl) ?aO ?aR ?aK (fun _ hk => hk.elim) (fun _ _ => trivial) ?aB ?aS ?aL ?_; (case aO => exact HE.out); (case aR => exact HQ.out); (case aK => exact (fun x cs h => h ▸ k82_mkM _ _ _ x)); (case aB => exact (show Below wq.heap.size wq (wq.drew.alloc (.cells #[] 82)) from below_alloc (below_drew (Below.refl _ _)) _)); (case aS => exact (by simp)); (case aL => (rw [List.length_nil]; omega)); intro v1 W1 ho hb hg1 hat; rw [List.nil_append] at ho; obtain ⟨A7, c7, hv7⟩ := Kd.R_slice ho; subst hv7; have hb : Below wq.heap.size wq W1 := hb; have hle7 := (Kd.R_reads' ho).2.1; have HO7 := Aside0.mk (Kd.N_below OJ.out hb))
                | (refine Kd.N_append_step k52 (w0 := wq) (W := W1) B1 (by rfl) (.tmp 37) (.tmp 46) 32 52 (.agg #[(.int .i64 0), (.string ⟨#[]⟩), (.int .i64 0), (.slice none 0 0), (.int .i64 0), (.int .i64 0)]) 72 (by rfl) Tryz.underlying32 info52 (by rfl) (by decide) (by omega) u6 (out ++ (r.take j).map (vio nm (rd_T58 facts k).f0)) (vio nm (rd_T58 facts k).f0 (rd_T50 r j)) [.int .i64 2, .string nm, .int .i64 0, .slice A7 (rd_T58 facts k).f0.length c7, .int .i64 (rd_T50 r j).f0, .int .i64 (rd_T50 r j).f1] (fun _ => True) (fun b => wq.heap.size ≤ b) (by rfl) (by rfl) (k52_mkF _ _ (vio nm (rd_T58 facts k).f0 (rd_T50 r j)) hle7 (Kd.R_F (Kd.R_mono (Kd.R_bound ho) (fun _ hk => hk.2.1)))) (fun b hk => ⟨trivial, fun e_ => by have := OL3.out b e_.symm; omega⟩) (fun _ _ => trivial) ?aO ?aB ?aS ?aL ?_; (case aO => exact HO7.out); (case aB => exact hb.mono hbr3); (case aS => exact Nat.le_trans hbr3 hb.size); (case aL => (rw [List.length_append, List.length_map, List.length_take]; omega)); intro v2 W2 ho2 hb2 hg2 hat2))
            all_goals
              go_wp2
              exact ⟨⟨j + 1, by go_num, h2, Nat.le_trans (Nat.le_trans hbr3 hb.size) hg2.size, ⟨BJ.out.trans (hb2.mono (by omega))⟩, ⟨Kd.N_grown (Kd.N_below NJ.out hb) hg2 (fun b hb_ e => by have := OB.out b e.symm; omega)⟩, ⟨by rw [hst2.out, List.map_append, ← List.append_assoc]; exact ho2⟩, ⟨Kd.F_grown (Kd.F_below FJ.out hb) hg2 (fun b hb_ e => by have := OB.out b e.symm; omega)⟩, ⟨Kd.F_after (Kd.F_below SJ.out hb) hg2 hat2⟩, ⟨(CJ.out.below hb).own HO7.out hg2⟩, ⟨blk_grown (blk_below TJ.out hb) hg2 HTN.out⟩, ⟨blk_grown (blk_below XJ.out hb) hg2 HXN.out⟩⟩, by simp [intOf]; omega⟩
          · have htk : r.take j = r := List.take_of_length_le (by omega)
            rw [htk] at HO
            go_wp2
            exact ⟨⟨k + 1, _, by go_num, h1, by rw [List.length_append, List.length_map]; omega, hbr2, HB, HN, HO, HCR, HT1, ⟨by rw [hst.out]; exact HV.out.snoc hvs.out⟩⟩, by simp [intOf]; omega⟩
    · have htk : facts.take k = facts := List.take_of_length_le (by omega)
      rw [htk] at HV
      go_wp2
      go_ret
      exact ⟨_, gs, facts, out, rfl, HGOK.out, HBU.out, HV.out, by omega, Kd.N_lower HO.out (by omega), HB.out⟩
end Go.Proofs.YtiamihkfphmohaaGreatDoor.PA
