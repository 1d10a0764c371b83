/- Rows of integers: a cut of one, a cell of one, a cell written; a whole array read in a drawn region. A row of noughts is made, and filled. A region that draws its order: its first operations only read (calls that only draw among them), the others come one by one behind all of those; some of the first may have come up already. One whose callees lay new memory only. A region that draws its order: its first operations only read, or lay new memory; each of the others waits for the first of those behind them. What stands behind is walked on by itself. The document's SHA-256: one block more; the whole. Whether a region's operations may stand in their written order: a check that goes over the list once. A region that draws its order: a row of its operations that look at no memory, taken first, one after the other; what else it does stands in whatever order. -/
import Derived.Test.YtcomibocajjhoaaGreatDoorP4x
import Derived.Test.YtcomibocajjhoaaGreatDoorHt
import Derived.Laws.MakeOwn
import Derived.Deep.QuietTactic
import Derived.BigQuiet
import Derived.StillTail
import Derived.RegionTactic
namespace Go.Proofs.YtcomibocajjhoaaGreatDoor
open Go.RowKit
theorem Src.take {w : World} {A : Option Addr} {n : Nat} {xs : List Value} (h : Src w 1 A n xs) (q : Nat) (hq : q ≤ n) : Src w 1 A q (xs.take q) := by
  refine ⟨by rw [List.length_take, h.1]; omega, fun h0 => ?_, fun u hu => h.2.2 u (List.mem_of_mem_take hu)⟩
  obtain ⟨ad, ha, hx⟩ := h.2.1 (by omega)
  refine ⟨ad, ha, fun j u hj => hx j u ?_⟩
  rw [List.getElem?_take] at hj
  split at hj
  · exact hj
  · cases hj
/-- One element of a row of integers is written. -/
theorem RowQ.setAt {w : World} {base : Nat} {e : TypeId} {g o n c : Nat} {xs : List Value} (h : RowQ w base e 1 (.slice (some ⟨g, o, none⟩) n c) n xs) (k : Nat) (_hk : k < n) (v : Value) :
    RowQ (w.setCell ⟨g, o + k, none⟩ v) base e 1 (.slice (some ⟨g, o, none⟩) n c) n (xs.set k v) := by
  refine ⟨by rw [List.length_set]; exact h.1, ?_⟩
  rcases h.2 with ⟨hv, _⟩ | ⟨g', o', cap, cur, hv, hbg, hg, hnc, hcm, hcs, ht⟩
  · injection hv with h1; cases h1
  · injection hv with hA _ hc
    injection hA with hA
    injection hA with h1 h2 _
    subst h1; subst h2; subst hc
    refine .inr ⟨g, o, c, cur.setIfInBounds (o + k) v, rfl, hbg, heap_setCell_same w g (o + k) cur e v hg, hnc, hcm, by simpa using hcs, ?_⟩
    rw [Array.toList_setIfInBounds, ← ht]
    simp only [Nat.mul_one]
    rw [List.drop_set, if_neg (by omega), show o + k - o = k by omega, List.take_set]
theorem RowQ.cellAt {w : World} {base : Nat} {e : TypeId} {g o n c : Nat} {xs : List Value} (h : RowQ w base e 1 (.slice (some ⟨g, o, none⟩) n c) n xs) (k : Nat) (hk : k < n) (v : Value) (hx : xs[k]? = some v) :
    w.cell? ⟨g, o + k, none⟩ = some v ∧ w.frozen? ⟨g, o + k, none⟩ = false := by
  rcases h.2 with ⟨hv, _⟩ | ⟨g', o', cap, cur, hv, hbg, hg, hnc, hcm, hcs, ht⟩
  · injection hv with h1; cases h1
  · injection hv with hA _ hc
    injection hA with hA
    injection hA with h1 h2 _
    subst h1; subst h2; subst hc
    refine ⟨?_, frozen_of_row w g (o + k) cur e hg⟩
    rw [cell_of_row w g (o + k) cur e (0, 0) hg]
    rw [← ht, List.getElem?_take] at hx
    rw [if_pos (by omega), List.getElem?_drop] at hx
    simpa using hx
theorem RowQ.blk {w : World} {base : Nat} {e : TypeId} {A : Option Addr} {n c : Nat} {xs : List Value} (h : RowQ w base e 1 (.slice A n c) n xs) (hn : 0 < n) : ∃ g o, A = some ⟨g, o, none⟩ ∧ base ≤ g ∧ g < w.heap.size := by
  rcases h.2 with ⟨hv, hn0⟩ | ⟨g, o, cap, cur, hv, hbg, hg, _⟩
  · omega
  · injection hv with hA
    exact ⟨g, o, hA, hbg, (Array.getElem?_eq_some_iff.1 hg).1⟩
theorem RowQ.ad {w : World} {base : Nat} {e : TypeId} {A : Option Addr} {n c : Nat} {xs : List Value} (h : RowQ w base e 1 (.slice A n c) n xs) : ∀ ad, A = some ad → base ≤ ad.block ∧ ad.block < w.heap.size :=
  fun ad e => h.lt ad.block (by subst e; rfl)
theorem Blk.kept' {w w1 : World} {g b : Nat} {t : TypeId} {cs : List Value} (h : Blk w g t cs) (hk : Kept2 w w1 b none) (hg : g ≠ b) : Blk w1 g t cs := (hk.block g h.lt hg (fun e => by cases e)).trans h
/-- A whole array read, as one step of a region that draws. -/
theorem step_load {P : Program} {ops : Array Oper} {o : Oper} {a : Act} {w : World} {K : Act → World → Prop} {Q : Exit → Act → World → Prop} {E : Prop} (hgd : Region.wanted o (yielded ops a.tmps) = true) (ty : TypeId) (x : Operand) (ho : o.op = .load ty x) (g : Nat) (hx : a.eval x = .pointer (some ⟨g, 0, none⟩)) (t : TypeId) (cs : List Value) (hb : Blk w g t cs)
    (n : Nat) (e : TypeId) (hu : P.underlying ty = some (.array n e)) (hi : (P.info? ty).map (·.size) = some cs.length) (h : K (a.put o.dst (.agg cs.toArray)) w) :
    if Region.wanted o (yielded ops a.tmps) = true then Oper.wp P o a w K Q else E := by
  rw [if_pos hgd]
  exact wp_load_row ty x ho g hx t cs.toArray (0, 0) _ hb hu rfl (by simpa using hi) h
/-- A text's byte. -/
theorem run_byte (W : World) (s : ByteArray) (l : List UInt8) (hl : l = s.data.toList) (k : Nat) (h : k < s.size) : (Instr.index 9 (.string s) (.int .i64 k)).run Tryz.prog W = .ok (.int .u8 (ub (gb l k))) W := by
  have hu : Tryz.prog.underlying 9 = some .string := by kernel_rfl
  have hk : k < l.length := by rw [hl, ← ba_size]; exact h
  have e1 : s[k]'h = s.data.toList[k]'(by rw [← ba_size]; exact h) := rfl
  have e : s[k]? = some (gb l k) := by
    rw [getElem?_pos s k h, e1]
    subst hl
    simp only [gb, List.getD_eq_getElem?_getD, List.getElem?_eq_getElem hk, Option.getD_some]
  unfold Instr.index
  simp [go_sem, e]
  rfl
/-- A cut of a row, from a place on. -/
theorem RowQ.mid {w : World} {base : Nat} {A : Option Addr} {n c : Nat} {l : List UInt8} (h : RowQ w base 5 1 (.slice A n c) n (Bs l)) (i m : Nat) (hm : i + m ≤ n) :
    Src w 1 (if c = i then A else A.map (·.add i)) m (Bs ((l.drop i).take m)) := by
  have hl : l.length = n := by have := h.1; simpa using this
  refine ⟨by rw [Bs_length, List.length_take, List.length_drop]; omega, fun h0 => ?_, Bs_one _⟩
  have hs := h.src (Bs_one _)
  obtain ⟨ad, rfl, hc⟩ := hs.2.1 (by omega)
  have hci : c ≠ i := by
    obtain ⟨A1, c1, e, h1, _⟩ := h.shape
    injection e with _ _ e
    omega
  rw [if_neg hci]
  refine ⟨ad.add i, rfl, fun j u hu => ?_⟩
  have hj : j < m := by
    rcases Nat.lt_or_ge j m with h | h
    · exact h
    · have e : (Bs ((l.drop i).take m))[j]? = none := List.getElem?_eq_none (by rw [Bs_length, List.length_take, List.length_drop]; omega)
      rw [e] at hu; cases hu
  have := hc (i + j) u (by
    rw [← hu]
    simp [Bs, hj, List.getElem?_drop])
  have ha : (ad.add i).add j = ad.add (i + j) := by
    unfold Addr.add
    by_cases h1 : i = 0 <;> by_cases h2 : j = 0 <;> simp [h1, h2, Nat.add_assoc]
  rw [ha]
  exact this
theorem mid_block {A : Option Addr} {k hb : Nat} (h : ∀ ad, A = some ad → ad.block < hb) : ∀ ad, Option.map (fun x => x.add k) A = some ad → ad.block < hb := by
  intro ad e
  cases A with
  | none => cases e
  | some a =>
    have h1 := h a rfl
    have e1 : a.add k = ad := Option.some.inj e
    have e2 : (a.add k).block = a.block := by unfold Addr.add; split <;> rfl
    rw [← e1, e2]
    exact h1
end Go.Proofs.YtcomibocajjhoaaGreatDoor
namespace Go.Proofs.YtcomibocajjhoaaGreatDoor
open Go.RowKit
theorem ub_of (c : Int) (h0 : 0 ≤ c) (h1 : c < 256) : ∃ x : UInt8, c = ub x := ⟨UInt8.ofNat c.toNat, by unfold ub; rw [UInt8.toNat_ofNat']; omega⟩
/-- A row of noughts is made. -/
theorem run_make_bytes (w : World) (n : Nat) (h : n ≤ 1048576) : (Instr.makeSlice 24 (.int .i64 (n : Int)) (.int .i64 (n : Int))).run Tryz.prog w =
    .ok (.slice (some ⟨w.heap.size, 0, none⟩) n n) (w.alloc (.cells (Bs (List.replicate n 0)).toArray 5)) := by
  obtain ⟨i, hi, hz, hs, hb⟩ : ∃ i, Tryz.prog.info? 5 = some i ∧ i.zero = some (.int .u8 0) ∧ i.size = 1 ∧ i.bytes = 1 := by
    have := Tryz.info5
    cases hi : Tryz.prog.info? 5 with
    | none => rw [hi] at this; cases this
    | some i =>
      rw [hi] at this
      have h2 := Option.some.inj this
      simp only [Prod.mk.injEq] at h2
      exact ⟨i, rfl, h2.1, h2.2.1, h2.2.2⟩
  have hr := run_make (P := Tryz.prog) w 24 5 i (.int .u8 0) Tryz.underlying24 hi hz .i64 .i64 n n (by omega) (by omega) (by rw [hb]; omega) (by omega)
  have hm : madeCells (Value.int .u8 0).cells n = (Bs (List.replicate n 0)).toArray := by
    apply Array.ext
    · simp [madeCells]
    · intro j h1 h2
      have e : (Value.int .u8 0).cells = #[.int .u8 0] := rfl
      simp [madeCells, Bs, ub, e, Nat.mod_one]
  rw [hr, hs, Int.toNat_natCast, Nat.mul_one, hm]
theorem Blk.src {w : World} {g : Nat} {t : TypeId} {cs : List Value} (h : Blk w g t cs) (h1 : ∀ v ∈ cs, v.oneCell' = true) (n : Nat) (hn : cs.length = n) : Src w 1 (some ⟨g, 0, none⟩) n cs :=
  ⟨by omega, fun _ => ⟨_, rfl, fun j u hu => by
    have ha : (⟨g, 0, none⟩ : Addr).add j = ⟨g, j, none⟩ := by unfold Addr.add; split <;> simp_all
    rw [ha]; exact h.cell j u hu⟩, h1⟩
/-- A remainder, made one that is not below 0. -/
theorem tmod_round (n m : Int) (hm : 0 < m) (h2 : m ≤ 1000000) : ∃ q : Nat, (q : Int) < m ∧ (wrap64 (n.tmod m + m)).tmod m = (q : Int) := by
  have h : -m < n.tmod m ∧ n.tmod m < m := by
    rcases Int.le_total 0 n with h | h
    · rw [Int.tmod_eq_emod_of_nonneg h]
      have := Int.emod_nonneg n (show m ≠ 0 by omega)
      have := Int.emod_lt_of_pos n hm
      omega
    · have e : n = -(-n) := by omega
      rw [e, Int.neg_tmod, Int.tmod_eq_emod_of_nonneg (by omega)]
      have := Int.emod_nonneg (-n) (show m ≠ 0 by omega)
      have := Int.emod_lt_of_pos (-n) hm
      omega
  have hw : wrap64 (n.tmod m + m) = n.tmod m + m := by unfold wrap64; omega
  rw [hw, Int.tmod_eq_emod_of_nonneg (by omega)]
  have h3 := Int.emod_nonneg (n.tmod m + m) (show m ≠ 0 by omega)
  have h4 := Int.emod_lt_of_pos (n.tmod m + m) hm
  exact ⟨((n.tmod m + m) % m).toNat, by omega, by omega⟩
/-- The row while it is filled. -/
def fillF (f : Nat → UInt8) (n k : Nat) : List UInt8 := (List.range k).map f ++ List.replicate (n - k) 0
theorem fillF_len (f : Nat → UInt8) (n k : Nat) (h : k ≤ n) : (fillF f n k).length = n := by simp [fillF]; omega
theorem fillF_set (f : Nat → UInt8) (n k : Nat) (h : k < n) : (fillF f n k).set k (f k) = fillF f n (k + 1) := by
  unfold fillF
  rw [show n - k = (n - (k + 1)) + 1 by omega, List.replicate_succ, List.set_append_right _ _ (by simp), List.length_map, List.length_range, Nat.sub_self, List.set_cons_zero, List.range_succ, List.map_append, List.append_assoc]
  rfl
theorem fillF_at (f : Nat → UInt8) (n k : Nat) (h : k < n) : gb (fillF f n k) k = 0 := by
  unfold gb fillF
  rw [List.getD_eq_getElem?_getD, List.getElem?_append_right (by simp), List.length_map, List.length_range, Nat.sub_self, show n - k = (n - (k + 1)) + 1 by omega, List.replicate_succ]
  rfl
theorem fillF_zero (f : Nat → UInt8) (n : Nat) : fillF f n 0 = List.replicate n 0 := by simp [fillF]
theorem fillF_all (f : Nat → UInt8) (n : Nat) : fillF f n n = (List.range n).map f := by simp [fillF]
end Go.Proofs.YtcomibocajjhoaaGreatDoor
namespace Go.Proofs.YtcomibocajjhoaaGreatDoor
section
variable {P : Program} {ops : Array Oper} {md : Region.Mode} {C : World → Prop}
/-- Whatever order the first operations are picked in. -/
def headQ (P : Program) (md : Region.Mode) (ops : Array Oper) (C : World → Prop) (n : Nat) (L : Array Bool → Act → Prop) : Nat → Array Bool → Act → Prop
  | 0, listed, a => L listed a
  | f + 1, listed, a => Region.ready md ops listed ≠ [] ∧ ∀ i ∈ Region.ready md ops listed, i < n ∧ qOp P ops C i (headQ P md ops C n L f (listed.setIfInBounds i true)) a
theorem headQ_any {n g : Nat} {L : Array Bool → Act → Prop} {Q : Exit → Act → World → Prop} (hL : ∀ listed a w, C w → L listed a → wpAny P md ops Q g listed a w) (f : Nat) :
    ∀ (listed : Array Bool) (a : Act) (w : World), C w → headQ P md ops C n L f listed a → wpAny P md ops Q (f + g) listed a w := by
  induction f with
  | zero => intro listed a w hw h; rw [Nat.zero_add]; exact hL _ _ _ hw h
  | succ f ih =>
    intro listed a w hw h
    have e : f + 1 + g = f + g + 1 := by omega
    rw [e]
    exact ⟨fun h0 => absurd h0 h.1, fun i hi => wpOp_of_qOp hw (fun a' w' hw' h' => ih _ a' w' hw' h') (h.2 i hi).2⟩
/-- Each of the first n that has not come up yet is waited for. -/
def sinkL (md : Region.Mode) (ops : Array Oper) (n : Nat) (l0 : Array Bool) : Bool :=
  (List.range n).all fun i => l0.getD i false || (List.range (n + 1)).any fun j => decide (i < j) && Region.waitsFor md ops j i
/-- What is known of those that came up. -/
structure Came (md : Region.Mode) (ops : Array Oper) (n : Nat) (l0 listed : Array Bool) : Prop where
  inv : HeadInv md ops n listed
  sub : ∀ j, l0.getD j false = true → listed.getD j false = true
theorem Came.set {n i : Nat} {l0 listed : Array Bool} (h : Came md ops n l0 listed) (hi : i ∈ Region.ready md ops listed) (hin : i < n) : Came md ops n l0 (listed.setIfInBounds i true) :=
  ⟨h.inv.set hi hin, fun j hj => getD_set_true (h.sub j hj)⟩
theorem first_waits {n : Nat} {l0 listed : Array Bool} (hs : sinkL md ops n l0 = true) (h : Came md ops n l0 listed) (d : Nat) :
    ∀ i, n - i = d → i < n → listed.getD i false = false → n ∉ Region.ready md ops listed := by
  induction d using Nat.strongRecOn with
  | _ d ih =>
    intro i hd hi hun hr
    have h1 := List.all_eq_true.1 hs i (List.mem_range.2 hi)
    rw [Bool.or_eq_true] at h1
    rcases h1 with h1 | h1
    · rw [h.sub i h1] at hun; cases hun
    · obtain ⟨j, hj, hw⟩ := List.any_eq_true.1 h1
      rw [Bool.and_eq_true, decide_eq_true_eq] at hw
      obtain ⟨oj, hoj, e, he, hb, hon⟩ := Region.waitsFor_spec hw.2
      have hjn := List.mem_range.1 hj
      by_cases hjt : j = n
      · subst hjt
        obtain ⟨_, ot, hot, hall⟩ := mem_ready.1 hr
        obtain rfl : oj = ot := Option.some.inj (hoj.symm.trans hot)
        have := hall e he hb
        rw [hon, hun] at this
        cases this
      · cases hl : listed.getD j false with
        | true =>
          have := h.inv.closed j oj hoj hl e he hb
          rw [hon, hun] at this
          cases this
        | false => exact ih (n - j) (by omega) j rfl (by omega) hl hr
theorem rest_waits {n i : Nat} {l0 listed : Array Bool} (hs : sinkL md ops n l0 = true) (hc : Region.chainB md ops n = true) (h : Came md ops n l0 listed) (hi : i < n) (hun : listed.getD i false = false) :
    ∀ t, n ≤ t → t ∉ Region.ready md ops listed := by
  intro t ht hr
  rcases Nat.lt_or_ge n t with h1 | h1
  · obtain ⟨_, ot, hot, hall⟩ := mem_ready.1 hr
    have htl := (Array.getElem?_eq_some_iff.1 hot).1
    have h2 := List.all_eq_true.1 hc t (List.mem_range.2 htl)
    rw [Bool.or_eq_true, decide_eq_true_eq] at h2
    rcases h2 with h2 | h2
    · omega
    · obtain ⟨o', ho', e, he, hb, hon⟩ := Region.waitsFor_spec h2
      obtain rfl : o' = ot := Option.some.inj (ho'.symm.trans hot)
      have h3 := hall e he hb
      rw [hon, getD_both (h.inv.tail (t - 1) (by omega) (by omega))] at h3
      cases h3
  · obtain rfl : t = n := by omega
    exact first_waits hs h (t - i) i rfl hi hun hr
/-- One that may come up, and is apart from what may come up beside it, may be taken first. -/
theorem headQ_first {n i : Nat} {oi : Oper} {v : Value} {L : Array Bool → Act → Prop} {l0 : Array Bool} (hi : ops[i]? = some oi) (hsel : Region.noSelect ops = true) (hs : sinkL md ops n l0 = true) (hc : Region.chainB md ops n = true) (hin : i < n)
    (hdone : ∀ listed a, L listed a → ∀ j ∈ Region.ready md ops listed, n ≤ j) (f : Nat) :
    ∀ (listed : Array Bool) (a : Act), Came md ops n l0 listed →
      (∀ j oj, ops[j]? = some oj → j ≠ i → listed.getD j true = false → (∀ e ∈ oj.after, Region.binds md e = true → e.on ≠ i) → oi.apart ops oj = true) →
      i ∈ Region.ready md ops listed → YieldsIn P ops C oi v a → headQ P md ops C n L f (listed.setIfInBounds i true) (a.put oi.dst v) → headQ P md ops C n L (f + 1) listed a := by
  have ns := Region.noSelect_spec hsel
  induction f with
  | zero =>
    intro listed a inv _ hr hy H
    have hun := getD_both (mem_ready.1 hr).1
    refine ⟨fun e => (by rw [e] at hr; cases hr), fun j hj => ?_⟩
    have hjn : j < n := Nat.lt_of_not_ge fun hge => rest_waits hs hc inv hin hun j hge hj
    by_cases hji : j = i
    · subst hji; exact ⟨hjn, hy.qOp hi H⟩
    · have := hdone _ _ H j (ready_mono hj hji)
      omega
  | succ f ih =>
    intro listed a inv hfree hr hy H
    have hun := getD_both (mem_ready.1 hr).1
    refine ⟨fun e => (by rw [e] at hr; cases hr), fun j hj => ?_⟩
    have hjn : j < n := Nat.lt_of_not_ge fun hge => rest_waits hs hc inv hin hun j hge hj
    refine ⟨hjn, ?_⟩
    by_cases hji : j = i
    · subst hji; exact hy.qOp hi H
    · obtain ⟨hjun, oj, hoj, hall⟩ := mem_ready.1 hj
      have hnot : ∀ e ∈ oj.after, Region.binds md e = true → e.on ≠ i := fun e he hb heq => by
        have := hall e he hb
        rw [heq, hun] at this
        cases this
      have h2 := qOp_put hoj (hfree j oj hoj hji hjun hnot) (fun cs b => ns i oi cs b hi) (fun cs b => ns j oj cs b hoj) hy (H.2 j (ready_mono hj hji)).2
      refine qOp_mono (fun a' h3 => ih _ a' (inv.set hj hjn) (fun k ok hk hki hkun hno => hfree k ok hk hki ?_ hno) (ready_mono hr (Ne.symm hji)) h3.1 ?_) h2
      · by_cases hjk : j = k
        · subst hjk; exact hjun
        · rwa [getD_set_ne true hjk] at hkun
      · rw [Array.setIfInBounds_comm _ _ hji]
        exact h3.2
/-- The walk in the text's order serves each order of the first operations. -/
theorem headQ_lex {n g : Nat} {Lq : Act → Prop} {l0 : Array Bool} (hsel : Region.noSelect ops = true) (hs : sinkL md ops n l0 = true) (hc : Region.chainB md ops n = true) (l : List Oper) :
    ∀ (k : Nat) (listed : Array Bool) (a : Act), (∀ j, j < l.length → l[j]? = ops[k + j]?) → k + l.length = n → Came md ops n l0 listed → Region.lexHead md ops g l.length k listed = true → wpQuiet P ops C Lq l a →
      headQ P md ops C n (fun listed' a' => Region.seqB md ops g n listed' = true ∧ Lq a') l.length listed a := by
  induction l with
  | nil =>
    intro k listed a _ hk _ hB h
    obtain rfl : k = n := by simpa using hk
    exact ⟨by simpa [Region.lexHead] using hB, h⟩
  | cons o l ih =>
    intro k listed a hl hk inv hB h
    have h0 : ops[k]? = some o := by simpa using (hl 0 (by simp)).symm
    simp only [List.length_cons, Region.lexHead, Bool.and_eq_true] at hB
    have hkn : k < n := by simp only [List.length_cons] at hk; omega
    have hr : k ∈ Region.ready md ops listed := by simpa using hB.1.1
    have hq : qOp P ops C k (wpQuiet P ops C Lq l) a := by unfold qOp; simp only [h0]; exact h
    obtain ⟨v, hy, hK⟩ := yieldsIn_of_qOp h0 hq
    refine headQ_first h0 hsel hs hc hkn (fun listed' a' hL => seqB_ready hL.1) l.length listed a inv (Region.free_spec h0 hB.1.2) hr hy ?_
    refine ih (k + 1) _ _ (fun j hj => ?_) (by simp only [List.length_cons] at hk; omega) (inv.set hr hkn) hB.2 hK
    have := hl (j + 1) (by simp; omega)
    simpa [Nat.add_assoc, Nat.add_comm 1 j] using this
/-- What is checked of the region, of those that came up. -/
def tailOk (md : Region.Mode) (ops : Array Oper) (k n : Nat) (listed : Array Bool) : Bool :=
  Region.noSelect ops && decide (k ≤ n) && decide (n < ops.size) && sinkL md ops n listed && Region.chainB md ops n && Region.lexHead md ops (ops.size - n) (n - k) k listed && decide (listed.size = ops.size)
    && ((List.range ops.size).all fun j => !listed.getD j false || match ops[j]? with
        | some oj => oj.after.all fun e => !Region.binds md e || listed.getD e.on false
        | none => false)
    && ((List.range ops.size).all fun t => decide (t < n) || !listed.getD t true)
theorem wpAny_head {l : List Oper} {Q : Exit → Act → World → Prop} {listed : Array Bool} {a : Act} {w : World} (k n : Nat) (hw : C w) (hB : tailOk md l.toArray k n listed = true)
    (h : wpQuiet P l.toArray C (fun a' => ∀ w', C w' → wpList P l.toArray Q (l.drop n) a' w') ((l.take n).drop k) a) {m : Nat} (hm : m = l.length - k) : wpAny P md l.toArray Q m listed a w := by
  subst hm
  unfold tailOk at hB
  simp only [Bool.and_eq_true, decide_eq_true_eq] at hB
  obtain ⟨⟨⟨⟨⟨⟨⟨⟨hsel, hkn⟩, hn⟩, hs⟩, hc⟩, hlex⟩, hsz⟩, hcl⟩, htl⟩ := hB
  have hn' : n < l.length := by simpa using hn
  have hlen : ((l.take n).drop k).length = n - k := by rw [List.length_drop, List.length_take]; omega
  have came : Came md l.toArray n listed listed := by
    refine ⟨⟨hsz, fun j oj hoj hl e he hb => ?_, fun t ht ht' => ?_⟩, fun _ h => h⟩
    · have hj := (Array.getElem?_eq_some_iff.1 hoj).1
      have h1 := List.all_eq_true.1 hcl j (List.mem_range.2 hj)
      simp only [hl, Bool.not_true, Bool.false_or, hoj] at h1
      have h2 := Array.all_eq_true_iff_forall_mem.1 h1 e he
      simpa [hb] using h2
    · have h1 := List.all_eq_true.1 htl t (List.mem_range.2 ht')
      simp only [Bool.or_eq_true, decide_eq_true_eq, Bool.not_eq_true'] at h1
      rcases h1 with h1 | h1
      · omega
      · exact h1
  have H := headQ_lex (md := md) (g := l.toArray.size - n) hsel hs hc ((l.take n).drop k) k listed a (fun j hj => by
    rw [hlen] at hj
    simp only [List.getElem?_drop, List.getElem?_toArray]
    rw [List.getElem?_take, if_pos (by omega)]) (by rw [hlen]; omega) came (by rw [hlen]; exact hlex) h
  have e : l.length - k = ((l.take n).drop k).length + (l.toArray.size - n) := by rw [hlen]; simp; omega
  rw [e]
  refine headQ_any (fun listed' a' w' hw' hL => ?_) _ listed a w hw H
  have hd : l.toArray.size - n = (l.drop n).length := by simp
  rw [hd]
  rw [hd] at hL
  exact wpAny_of_seq (l.drop n) n listed' a' w' (fun j => by simp) hL.1 (hL.2 w' hw')
/-- A region that draws its order, each of whose operations hands back one value in every world of a class and leaves it in the class. -/
theorem wp_region_class {id : Nat} {Q : Exit → Act → World → Prop} {a : Act} {w : World} {l : List Oper} (hm : P.follows .mixedOrders = true) (hB : Region.lexB .any l.toArray = true) (hC : C w.drew)
    (h : wpQuiet P l.toArray C (fun a' => ∀ w', C w' → Q .normal a' w') l a) : (Code.region id l.toArray true).wp P Q a w :=
  wp_region_quiet hm hB hC (by simpa using h)
/-- One operation of the walk of what only reads: a value. -/
theorem wpQuiet_val {Q : Act → Prop} {o : Oper} {rest : List Oper} {a : Act} (hgd : Region.wanted o (yielded ops a.tmps) = true) (v : Value) (h0 : ∀ w, C w → (execOp a.eval o).run P w = .ok (.value v) w)
    (h : wpQuiet P ops C Q rest (a.put o.dst v)) : wpQuiet P ops C Q (o :: rest) a := by
  unfold wpQuiet
  rw [if_pos hgd]
  refine ⟨v, fun w hw => ?_, h⟩
  unfold Oper.quietAt
  rw [h0 w hw]
  exact ⟨rfl, rfl⟩
/-- .. a call. -/
theorem wpQuiet_enter {Q : Act → Prop} {o : Oper} {rest : List Oper} {a : Act} (hgd : Region.wanted o (yielded ops a.tmps) = true) (f : FuncId) (args : Array Value) (h0 : ∀ w, (execOp a.eval o).run P w = .ok (.enter f args) w) (v : Value)
    (hc : ∀ w, C w → Calls P f args w fun e w' => e = .returned v ∧ C w') (h : wpQuiet P ops C Q rest (a.put o.dst v)) : wpQuiet P ops C Q (o :: rest) a := by
  unfold wpQuiet
  rw [if_pos hgd]
  refine ⟨v, fun w hw => ?_, h⟩
  unfold Oper.quietAt
  rw [h0 w]
  exact ⟨rfl, hc w hw⟩
/-- .. one whose guard does not hold. -/
theorem wpQuiet_not {Q : Act → Prop} {o : Oper} {rest : List Oper} {a : Act} (hgd : Region.wanted o (yielded ops a.tmps) = false) (h : wpQuiet P ops C Q rest (a.put o.dst undef)) : wpQuiet P ops C Q (o :: rest) a := by
  unfold wpQuiet
  rw [if_neg (by rw [hgd]; simp)]
  exact h
/-- .. a conversion that only reads. -/
theorem wpQuiet_conv {Q : Act → Prop} {o : Oper} {rest : List Oper} {a : Act} (hgd : Region.wanted o (yielded ops a.tmps) = true) (t1 t2 : TypeId) (x : Operand) (ho : o.op = .convert t1 t2 x) (v : Value) (h0 : ∀ w, C w → (convert t1 t2 (a.eval x)).run P w = .ok v w)
    (h : wpQuiet P ops C Q rest (a.put o.dst v)) : wpQuiet P ops C Q (o :: rest) a := by
  refine wpQuiet_val hgd v (fun w hw => ?_) h
  unfold execOp
  simp only [ho, Sem.run_bind, Sem.run_pure, Result.andThen_ok, h0 w hw]
/-- .. a move. -/
theorem wpQuiet_move {Q : Act → Prop} {o : Oper} {rest : List Oper} {a : Act} (hgd : Region.wanted o (yielded ops a.tmps) = true) (x : Operand) (ho : o.op = .move x) (h : wpQuiet P ops C Q rest (a.put o.dst (a.eval x))) : wpQuiet P ops C Q (o :: rest) a := by
  refine wpQuiet_val hgd _ (fun w _ => ?_) h
  unfold execOp
  simp only [ho, Sem.run_pure]
theorem wpQuiet_assign {Q : Act → Prop} {o : Oper} {rest : List Oper} {a : Act} (hgd : Region.wanted o (yielded ops a.tmps) = true) (x : Operand) (ho : o.op = .assign x) (h : wpQuiet P ops C Q rest (a.put o.dst (a.eval x))) : wpQuiet P ops C Q (o :: rest) a := by
  refine wpQuiet_val hgd _ (fun w _ => ?_) h
  unfold execOp
  simp only [ho, Sem.run_pure]
end

open Go.RowKit
/-- A world that extends w. -/
def Ext (w : World) : Type := { w' : World // Below w.heap.size w w' }
def Ext.at_ {w : World} (s : Ext w) : World := s.1
theorem Ext.below {w : World} (s : Ext w) : Below w.heap.size w s.at_ := s.2
theorem ext_nonempty (w : World) : Nonempty (Ext w) := ⟨⟨w, Below.refl _ _⟩⟩
theorem Ext.call {P : Program} {f : FuncId} {args : Array Value} {w : World} {s : Ext w} {v : Value} (h : Calls P f args s.at_ fun e w' => e = .returned v ∧ Below s.at_.heap.size s.at_ w') :
    Calls P f args s.at_ fun e w' => e = .returned v ∧ ∃ s' : Ext w, w' = s'.at_ :=
  h.mono fun _ w' ⟨he, hb⟩ => ⟨he, ⟨w', s.2.trans (hb.mono s.2.size)⟩, rfl⟩
section
variable {P : Program}
theorem wp_region_ext {id : Nat} {Q : Exit → Act → World → Prop} {a : Act} {w : World} {l : List Oper} (hm : P.follows .mixedOrders = true) (hB : Region.lexB .any l.toArray = true)
    (h : wpQuiet P l.toArray (fun w' => ∃ s : Ext w, w' = s.at_) (fun a' => ∀ w', (∃ s : Ext w, w' = s.at_) → Q .normal a' w') l a) : (Code.region id l.toArray true).wp P Q a w :=
  wp_region_class (C := fun w' => ∃ s : Ext w, w' = s.at_) hm hB ⟨⟨w.drew, (Below.refl _ _).drew⟩, rfl⟩ h
end
end Go.Proofs.YtcomibocajjhoaaGreatDoor
namespace Go.Proofs.YtcomibocajjhoaaGreatDoor
section
variable {P : Program} {ops : Array Oper} {md : Region.Mode} {C : World → Prop}
/-- Each behind n waits for one of those from n on. -/
def laterB (md : Region.Mode) (ops : Array Oper) (n : Nat) : Bool :=
  (List.range ops.size).all fun t => decide (t ≤ n) || (List.range t).any fun j => decide (n ≤ j) && Region.waitsFor md ops t j
theorem later_waits {n : Nat} {l0 listed : Array Bool} (hc : laterB md ops n = true) (h : Came md ops n l0 listed) (hn : n ∉ Region.ready md ops listed) : ∀ t, n ≤ t → t ∉ Region.ready md ops listed := by
  intro t
  rcases Nat.lt_or_ge n t with h1 | h1
  · intro _ hr
    obtain ⟨_, ot, hot, hall⟩ := mem_ready.1 hr
    have htl := (Array.getElem?_eq_some_iff.1 hot).1
    have h2 := List.all_eq_true.1 hc t (List.mem_range.2 htl)
    rw [Bool.or_eq_true, decide_eq_true_eq] at h2
    rcases h2 with h2 | h2
    · omega
    · obtain ⟨j, hj, hw⟩ := List.any_eq_true.1 h2
      rw [Bool.and_eq_true, decide_eq_true_eq] at hw
      obtain ⟨o', ho', e, he, hb, hon⟩ := Region.waitsFor_spec hw.2
      obtain rfl : o' = ot := Option.some.inj (ho'.symm.trans hot)
      have h3 := hall e he hb
      have hjt := List.mem_range.1 hj
      rw [hon, getD_both (h.inv.tail j hw.1 (by omega))] at h3
      cases h3
  · intro h2
    obtain rfl : t = n := by omega
    exact hn
theorem stage_rest {n i : Nat} {l0 listed : Array Bool} (hs : sinkL md ops n l0 = true) (hc : laterB md ops n = true) (h : Came md ops n l0 listed) (hi : i < n) (hun : listed.getD i false = false) :
    ∀ t, n ≤ t → t ∉ Region.ready md ops listed := later_waits hc h (first_waits hs h (n - i) i rfl hi hun)
theorem headS_first {n i : Nat} {oi : Oper} {v : Value} {L : Array Bool → Act → Prop} {l0 : Array Bool} (hi : ops[i]? = some oi) (hsel : Region.noSelect ops = true) (hs : sinkL md ops n l0 = true) (hc : laterB md ops n = true) (hin : i < n)
    (hdone : ∀ listed a, L listed a → ∀ j ∈ Region.ready md ops listed, n ≤ j) (f : Nat) :
    ∀ (listed : Array Bool) (a : Act), Came md ops n l0 listed →
      (∀ j oj, ops[j]? = some oj → j ≠ i → listed.getD j true = false → (∀ e ∈ oj.after, Region.binds md e = true → e.on ≠ i) → oi.apart ops oj = true) →
      i ∈ Region.ready md ops listed → YieldsIn P ops C oi v a → headQ P md ops C n L f (listed.setIfInBounds i true) (a.put oi.dst v) → headQ P md ops C n L (f + 1) listed a := by
  have ns := Region.noSelect_spec hsel
  induction f with
  | zero =>
    intro listed a inv _ hr hy H
    have hun := getD_both (mem_ready.1 hr).1
    refine ⟨fun e => (by rw [e] at hr; cases hr), fun j hj => ?_⟩
    have hjn : j < n := Nat.lt_of_not_ge fun hge => stage_rest hs hc inv hin hun j hge hj
    by_cases hji : j = i
    · subst hji; exact ⟨hjn, hy.qOp hi H⟩
    · have := hdone _ _ H j (ready_mono hj hji)
      omega
  | succ f ih =>
    intro listed a inv hfree hr hy H
    have hun := getD_both (mem_ready.1 hr).1
    refine ⟨fun e => (by rw [e] at hr; cases hr), fun j hj => ?_⟩
    have hjn : j < n := Nat.lt_of_not_ge fun hge => stage_rest hs hc inv hin hun j hge hj
    refine ⟨hjn, ?_⟩
    by_cases hji : j = i
    · subst hji; exact hy.qOp hi H
    · obtain ⟨hjun, oj, hoj, hall⟩ := mem_ready.1 hj
      have hnot : ∀ e ∈ oj.after, Region.binds md e = true → e.on ≠ i := fun e he hb heq => by
        have := hall e he hb
        rw [heq, hun] at this
        cases this
      have h2 := qOp_put hoj (hfree j oj hoj hji hjun hnot) (fun cs b => ns i oi cs b hi) (fun cs b => ns j oj cs b hoj) hy (H.2 j (ready_mono hj hji)).2
      refine qOp_mono (fun a' h3 => ih _ a' (inv.set hj hjn) (fun k ok hk hki hkun hno => hfree k ok hk hki ?_ hno) (ready_mono hr (Ne.symm hji)) h3.1 ?_) h2
      · by_cases hjk : j = k
        · subst hjk; exact hjun
        · rwa [getD_set_ne true hjk] at hkun
      · rw [Array.setIfInBounds_comm _ _ hji]
        exact h3.2
/-- Those that came up, after n more in the text's order. -/
def cameL : Nat → Nat → Array Bool → Array Bool
  | 0, _, l => l
  | n + 1, k, l => cameL n (k + 1) (l.setIfInBounds k true)
def stepsB (md : Region.Mode) (ops : Array Oper) : Nat → Nat → Array Bool → Bool
  | 0, _, _ => true
  | n + 1, k, listed => (Region.ready md ops listed).contains k && Region.free md ops listed k && stepsB md ops n (k + 1) (listed.setIfInBounds k true)
theorem headS_lex {n : Nat} {Lq : Act → Prop} {l0 l1 : Array Bool} (hsel : Region.noSelect ops = true) (hs : sinkL md ops n l0 = true) (hc : laterB md ops n = true) (hd : ∀ j ∈ Region.ready md ops l1, n ≤ j) (l : List Oper) :
    ∀ (k : Nat) (listed : Array Bool) (a : Act), (∀ j, j < l.length → l[j]? = ops[k + j]?) → k + l.length = n → Came md ops n l0 listed → stepsB md ops l.length k listed = true → cameL l.length k listed = l1 → wpQuiet P ops C Lq l a →
      headQ P md ops C n (fun listed' a' => listed' = l1 ∧ Lq a') l.length listed a := by
  induction l with
  | nil =>
    intro k listed a _ hk _ hB h1 h
    exact ⟨h1, h⟩
  | cons o l ih =>
    intro k listed a hl hk inv hB h1 h
    have h0 : ops[k]? = some o := by simpa using (hl 0 (by simp)).symm
    simp only [List.length_cons, stepsB, Bool.and_eq_true] at hB
    have hkn : k < n := by simp only [List.length_cons] at hk; omega
    have hr : k ∈ Region.ready md ops listed := by simpa using hB.1.1
    have hq : qOp P ops C k (wpQuiet P ops C Lq l) a := by unfold qOp; simp only [h0]; exact h
    obtain ⟨v, hy, hK⟩ := yieldsIn_of_qOp h0 hq
    refine headS_first h0 hsel hs hc hkn (fun listed' a' hL => by rw [hL.1]; exact hd) l.length listed a inv (Region.free_spec h0 hB.1.2) hr hy ?_
    refine ih (k + 1) _ _ (fun j hj => ?_) (by simp only [List.length_cons] at hk; omega) (inv.set hr hkn) hB.2 h1 hK
    have := hl (j + 1) (by simp; omega)
    simpa [Nat.add_assoc, Nat.add_comm 1 j] using this
def stageOk (md : Region.Mode) (ops : Array Oper) (k n : Nat) (listed : Array Bool) : Bool :=
  Region.noSelect ops && decide (k ≤ n) && decide (n < ops.size) && sinkL md ops n listed && laterB md ops n && stepsB md ops (n - k) k listed && decide (listed.size = ops.size)
    && ((List.range ops.size).all fun j => !listed.getD j false || match ops[j]? with
        | some oj => oj.after.all fun e => !Region.binds md e || listed.getD e.on false
        | none => false)
    && ((List.range ops.size).all fun t => decide (t < n) || !listed.getD t true)
    && ((Region.ready md ops (cameL (n - k) k listed)).all fun j => decide (n ≤ j))
theorem wpAny_stage {l : List Oper} {Q : Exit → Act → World → Prop} {listed : Array Bool} {a : Act} {w : World} (k n g : Nat) (hw : C w) (hB : stageOk md l.toArray k n listed = true) {m : Nat} (hm : m = g + (n - k))
    (h : wpQuiet P l.toArray C (fun a' => ∀ w', C w' → wpAny P md l.toArray Q g (cameL (n - k) k listed) a' w') ((l.take n).drop k) a) : wpAny P md l.toArray Q m listed a w := by
  subst hm
  unfold stageOk at hB
  simp only [Bool.and_eq_true, decide_eq_true_eq] at hB
  obtain ⟨⟨⟨⟨⟨⟨⟨⟨⟨hsel, hkn⟩, hn⟩, hs⟩, hc⟩, hst⟩, hsz⟩, hcl⟩, htl⟩, hdn⟩ := hB
  have hn' : n < l.length := by simpa using hn
  have hlen : ((l.take n).drop k).length = n - k := by rw [List.length_drop, List.length_take]; omega
  have came : Came md l.toArray n listed listed := by
    refine ⟨⟨hsz, fun j oj hoj hl e he hb => ?_, fun t ht ht' => ?_⟩, fun _ h => h⟩
    · have hj := (Array.getElem?_eq_some_iff.1 hoj).1
      have h1 := List.all_eq_true.1 hcl j (List.mem_range.2 hj)
      simp only [hl, Bool.not_true, Bool.false_or, hoj] at h1
      have h2 := Array.all_eq_true_iff_forall_mem.1 h1 e he
      simpa [hb] using h2
    · have h1 := List.all_eq_true.1 htl t (List.mem_range.2 ht')
      simp only [Bool.or_eq_true, decide_eq_true_eq, Bool.not_eq_true'] at h1
      rcases h1 with h1 | h1
      · omega
      · exact h1
  have H := headS_lex (md := md) (l1 := cameL (n - k) k listed) hsel hs hc (fun j hj => by simpa using List.all_eq_true.1 hdn j hj) ((l.take n).drop k) k listed a (fun j hj => by
    rw [hlen] at hj
    simp only [List.getElem?_drop, List.getElem?_toArray]
    rw [List.getElem?_take, if_pos (by omega)]) (by rw [hlen]; omega) came (by rw [hlen]; exact hst) (by rw [hlen]) h
  rw [hlen] at H
  rw [Nat.add_comm]
  refine headQ_any (fun listed' a' w' hw' hL => ?_) _ listed a w hw H
  rw [hL.1]
  exact hL.2 w' hw'
/-- An operation that looks at no memory. -/
def bareOp : Op → Bool
  | .move _ | .assign _ | .binOp .. | .convert .. | .index .. | .slice .. | .indexAddr .. | .fieldAddr .. => true
  | _ => false
theorem bare_value {ev : Operand → Value} {o : Oper} (h : bareOp o.op = true) {w w' : World} {n : Next} (hr : (execOp ev o).run P w = .ok n w') : ∃ v, n = .value v := by
  unfold execOp at hr
  have key : ∀ s : Sem Value, Sem.run P (do pure (Next.value (← s))) w = .ok n w' → ∃ v, n = .value v := by
    intro s hs
    rw [Sem.run_bind] at hs
    cases hx : Sem.run P s w with
    | ok v w1 =>
      rw [hx] at hs
      simp only [Result.andThen_ok, Sem.run_pure] at hs
      injection hs with h1 _
      exact ⟨v, h1.symm⟩
    | halt h1 w1 => rw [hx] at hs; cases hs
  cases ho : o.op <;> rw [ho] at h <;> simp only [ho] at hr <;> first
    | (simp [bareOp] at h; done)
    | exact key _ hr
    | (simp only [Sem.run_pure] at hr; injection hr with h1 _; exact ⟨_, h1.symm⟩)
def bareB (md : Region.Mode) (ops : Array Oper) : List Nat → Array Bool → Bool
  | [], _ => true
  | k :: ks, listed => Region.free md ops listed k && (Region.ready md ops listed).contains k && (match ops[k]? with | some o => bareOp o.op | none => false) && bareB md ops ks (listed.setIfInBounds k true)
def bareL : List Nat → Array Bool → Array Bool
  | [], l => l
  | k :: ks, l => bareL ks (l.setIfInBounds k true)
def bareO (ops : Array Oper) (ks : List Nat) : List Oper := ks.filterMap fun k => ops[k]?
theorem wpAny_bare' {Q : Exit → Act → World → Prop} {w : World} {g : Nat} (hs : Region.noSelect ops = true) (hQ : ∀ c a w d v, Q (.panic c) (Act.put a d v) w → Q (.panic c) a w) (ks : List Nat) :
    ∀ (listed : Array Bool) (a : Act), bareB md ops ks listed = true →
      wpQuiet P ops (fun _ => True) (fun a' => wpAny P md ops Q g (bareL ks listed) a' w) (bareO ops ks) a → wpAny P md ops Q (g + ks.length) listed a w := by
  induction ks with
  | nil => intro listed a _ h; exact h
  | cons k ks ih =>
    intro listed a hB h
    simp only [bareB, Bool.and_eq_true] at hB
    obtain ⟨⟨⟨hf, hr⟩, hp⟩, hB'⟩ := hB
    cases h0 : ops[k]? with
    | none => rw [h0] at hp; cases hp
    | some o =>
      rw [h0] at hp
      have e1 : bareO ops (k :: ks) = o :: bareO ops ks := by unfold bareO; rw [List.filterMap_cons, h0]
      rw [e1] at h
      have hq : qOp P ops (fun _ => True) k (wpQuiet P ops (fun _ => True) (fun a' => wpAny P md ops Q g (bareL ks (listed.setIfInBounds k true)) a' w) (bareO ops ks)) a := by
        unfold qOp; simp only [h0]; exact h
      obtain ⟨v, hy, hK⟩ := yieldsIn_of_qOp h0 hq
      have hY : Yields P ops o v a := by
        rcases hy with ⟨h1, h2⟩ | h1
        · refine Or.inl ⟨h1, fun w1 => ?_⟩
          have h3 := h2 w1 trivial
          unfold Oper.quietAt at h3
          cases hx : (execOp a.eval o).run P w1 with
          | ok n w2 =>
            obtain ⟨v', rfl⟩ := bare_value hp hx
            rw [hx] at h3
            obtain ⟨rfl, rfl⟩ := h3
            rfl
          | halt x1 x2 => rw [hx] at h3; exact False.elim h3
        · exact Or.inr h1
      have e : g + (k :: ks).length = g + ks.length + 1 := by rw [List.length_cons]; omega
      rw [e]
      exact wpAny_take h0 hs hf hr (fun c a w => hQ c a w _ _) hY (ih _ _ hB' hK)
theorem wpAny_bare {Q : Exit → Act → World → Prop} {w : World} {l : List Oper} {listed : Array Bool} {a : Act} {m : Nat} (ks : List Nat) (g : Nat) (hm : m = g + ks.length) (hs : (Region.noSelect l.toArray && bareB md l.toArray ks listed) = true)
    (hQ : ∀ c a w d v, Q (.panic c) (Act.put a d v) w → Q (.panic c) a w)
    (h : wpQuiet P l.toArray (fun _ => True) (fun a' => wpAny P md l.toArray Q g (bareL ks listed) a' w) (bareO l.toArray ks) a) : wpAny P md l.toArray Q m listed a w := by
  simp only [Bool.and_eq_true] at hs
  rw [hm]
  exact wpAny_bare' hs.1 hQ ks listed a hs.2 h
end
end Go.Proofs.YtcomibocajjhoaaGreatDoor
namespace Go.Proofs.YtcomibocajjhoaaGreatDoor
open Go.RowKit
theorem shl8_or (x : BitVec 32) (b : UInt8) : x <<< 8 ||| byteW b = x <<< 8 + byteW b := by
  symm
  apply BitVec.add_eq_or_of_and_eq_zero
  apply BitVec.eq_of_getLsbD_eq
  intro i hi
  unfold byteW
  by_cases h : i < 8
  · simp [h]
  · have : b.toBitVec.getLsbD i = false := BitVec.getLsbD_of_ge _ _ (by omega)
    simp [this]
/-- A word of four bytes, as a sum. -/
theorem part_sum (bs : List UInt8) (t : Nat) :
    byteW (gb bs (4 * t)) <<< 24 + byteW (gb bs (4 * t + 1)) <<< 16 + byteW (gb bs (4 * t + 2)) <<< 8 + byteW (gb bs (4 * t + 3)) = part bs t 4 := by
  show _ = ((((0 : BitVec 32) <<< 8 ||| byteW (gb bs (4 * t))) <<< 8 ||| byteW (gb bs (4 * t + 1))) <<< 8 ||| byteW (gb bs (4 * t + 2))) <<< 8 ||| byteW (gb bs (4 * t + 3))
  rw [shl8_or, shl8_or, shl8_or, shl8_or]
  apply BitVec.eq_of_toNat_eq
  simp only [BitVec.toNat_add, BitVec.toNat_shiftLeft, Nat.shiftLeft_eq]
  rw [show (BitVec.toNat (0 : BitVec 32)) = 0 from rfl]
  omega
theorem un_shl24m (x : BitVec 32) : un x * 16777216 % 4294967296 = un (x <<< 24) := un_shlm x 24
theorem un_shl16m (x : BitVec 32) : un x * 65536 % 4294967296 = un (x <<< 16) := un_shlm x 16
theorem un_notm (x : BitVec 32) : (4294967295 - un x) % 4294967296 = un (~~~ x) := by
  have h1 := un_nonneg x
  have h2 := un_lt x
  have h3 : (~~~ x).toNat = 4294967295 - x.toNat := by rw [BitVec.toNat_not]
  unfold un at *
  rw [h3]
  omega
theorem word_val (a b c d : BitVec 32) : (un a * 16777216 + un b * 65536 + un (c <<< 8) + un d) % 4294967296 = un (a <<< 24 + b <<< 16 + c <<< 8 + d) := by
  rw [← un_sum4, ← un_shl24m, ← un_shl16m]; omega
theorem ch_or (e f g : BitVec 32) : (e &&& f ||| ~~~ e &&& g) = (e &&& f ^^^ ~~~ e &&& g) := by
  rw [← not_sub, ch_eq, not_sub]
attribute [local go_sem] un_add un_shl8 un_of_byte un_addm un_and un_or un_xor un_not un_not' un_shl8m un_shl24m un_shl16m un_notm un_shr3 un_shr10 ub_mod un_mod ch_or maj_eq
theorem Tryz.infoU : (Tryz.prog.info? 128).map (fun i => (i.zero, i.size, i.bytes)) = some (some (.int .u32 0), 1, 4) := by kernel_rfl
theorem Us_snoc (l : List (BitVec 32)) (x : BitVec 32) : Us l ++ [.int .u32 (un x)] = Us (l ++ [x]) := by simp [Us]
/-- The words, what is added: in a world. -/
def Mx2 (w W : World) (p : Nat) (l : List (BitVec 32)) : Prop := Mx0 w W l (List.replicate 8 0) ∧ w.heap.size + 2 ≤ p ∧ Blk W p 160 (Us ks)
theorem Mx2.new {w w2 : World} {l : List (BitVec 32)} (h : Mx0 w w2 l (List.replicate 8 0)) :
    Mx2 w ((w2.alloc (.cells zero64.toArray 160)).setRow w2.heap.size (Us ks).toArray) w2.heap.size l :=
  ⟨(h.alloc _).setRow h.lt _, h.lt, (Blk.new w2 160 zero64).row _⟩
theorem Mx2.grown {w W W1 : World} {p : Nat} {l : List (BitVec 32)} {row : Option Nat} (h : Mx2 w W p l) (hg : W.grownBy W1 row) (hr : ∀ k, row = some k → p + 1 ≤ k) : Mx2 w W1 p l := by
  obtain ⟨h0, hp, h1⟩ := h
  refine ⟨⟨h0.1.grown hg (by have := h0.lt; omega) (fun k e => by have := hr k e; omega), h0.2.1.grown hg (fun e => by have := hr _ e.symm; omega), h0.2.2.grown hg (fun e => by have := hr _ e.symm; omega)⟩, hp, h1.grown hg (fun e => by have := hr _ e.symm; omega)⟩
theorem Mx2.drewN {w W : World} {p : Nat} {l : List (BitVec 32)} (h : Mx2 w W p l) (n : Nat) : Mx2 w (W.drewN n) p l := ⟨h.1.drewN n, h.2.1, h.2.2⟩
theorem Mx2.drew {w W : World} {p : Nat} {l : List (BitVec 32)} (h : Mx2 w W p l) : Mx2 w W.drew p l := h.drewN 1
theorem Mx2.alloc {w W : World} {p : Nat} {l : List (BitVec 32)} (h : Mx2 w W p l) (o : Obj) : Mx2 w (W.alloc o) p l := ⟨h.1.alloc o, h.2.1, h.2.2.alloc o⟩
theorem Mx2.lt {w W : World} {p : Nat} {l : List (BitVec 32)} (h : Mx2 w W p l) : p + 1 ≤ W.heap.size := h.2.2.lt
theorem Mx2.setRow {w W : World} {p : Nat} {l : List (BitVec 32)} (h : Mx2 w W p l) {g : Nat} (hg : p + 1 ≤ g) (cs : Array Value) : Mx2 w (W.setRow g cs) p l := by
  have := h.2.1
  exact ⟨h.1.setRow (by omega) _, h.2.1, h.2.2.rowFar (by omega) _⟩
theorem Mx2.box {w W : World} {p : Nat} {l : List (BitVec 32)} (h : Mx2 w W p l) (k : Nat) (x : BitVec 32) : Mx2 w (W.setCell ⟨w.heap.size, k, none⟩ (.int .u32 (un x))) p (l.set k x) := by
  obtain ⟨⟨h0, hl, hr⟩, hp, h1⟩ := h
  exact ⟨⟨h0.setCell (Nat.le_refl _) _, by rw [← Us_set]; exact hl.setCell k _, hr.far (by simp) _⟩, hp, h1.far (by simp; omega) _⟩
/-- .. the words of the block in their row, the eight words. -/
def Mx3 (w W : World) (p q g o c : Nat) (ws l v : List (BitVec 32)) : Prop :=
  RowQ W (p + 1) 128 1 (.slice (some ⟨g, o, none⟩) 64 c) 64 (Us ws) ∧ Mx2 w W p l ∧ Blk W q 129 (Us v) ∧ p + 1 ≤ q ∧ g ≠ q ∧ p + 1 ≤ g
theorem Mx3.new {w W : World} {p g o c : Nat} {ws l : List (BitVec 32)} (hr : RowQ W (p + 1) 128 1 (.slice (some ⟨g, o, none⟩) 64 c) 64 (Us ws)) (hM : Mx2 w W p l) (v : List (BitVec 32)) :
    Mx3 w ((W.alloc (.cells zero8.toArray 129)).setRow W.heap.size (Us v).toArray) p W.heap.size g o c ws l v := by
  have hg := hr.lt g rfl
  exact ⟨(hr.alloc _).rowFar (by simp [Value.ownBlock]; omega) _, (hM.alloc _).setRow hM.lt _, (Blk.new W 129 zero8).row _, hM.lt, by omega, hg.1⟩
theorem Mx3.drewN {w W : World} {p q g o c : Nat} {ws l v : List (BitVec 32)} (h : Mx3 w W p q g o c ws l v) (n : Nat) : Mx3 w (W.drewN n) p q g o c ws l v := ⟨h.1, h.2.1.drewN n, h.2.2⟩
theorem Mx3.put {w W : World} {p q g o c : Nat} {ws l v : List (BitVec 32)} (h : Mx3 w W p q g o c ws l v) (v' : List (BitVec 32)) : Mx3 w (W.setRow q (Us v').toArray) p q g o c ws l v' := by
  obtain ⟨h1, h2, h3, h4, h5, h6⟩ := h
  exact ⟨h1.rowFar (by simp [Value.ownBlock]; exact h5) _, h2.setRow h4 _, h3.row _, h4, h5, h6⟩
theorem Mx3.box {w W : World} {p q g o c : Nat} {ws l v : List (BitVec 32)} (h : Mx3 w W p q g o c ws l v) (k : Nat) (x : BitVec 32) : Mx3 w (W.setCell ⟨w.heap.size, k, none⟩ (.int .u32 (un x))) p q g o c ws (l.set k x) v := by
  obtain ⟨h1, h2, h3, h4, h5, h6⟩ := h
  have hp := h2.2.1
  exact ⟨h1.far (by simp [Value.ownBlock]; omega) _, h2.box k x, h3.far (by simp; omega) _, h4, h5, h6⟩
/-- What a round reads. -/
theorem Mx3.ten {w W : World} {p q g o c : Nat} {ws l : List (BitVec 32)} {r : St} (h : Mx3 w W p q g o c ws l r.list) (k : Nat) (hk : k < 64) (hl : ws.length = 64) (kk ww : BitVec 32) (h1 : gw ks k = kk) (h2 : gw ws k = ww) :
    W.cell? ⟨q, 0, none⟩ = some (.int .u32 (un r.a)) ∧ W.cell? ⟨q, 1, none⟩ = some (.int .u32 (un r.b)) ∧ W.cell? ⟨q, 2, none⟩ = some (.int .u32 (un r.c)) ∧ W.cell? ⟨q, 3, none⟩ = some (.int .u32 (un r.d)) ∧ W.cell? ⟨q, 4, none⟩ = some (.int .u32 (un r.e)) ∧ W.cell? ⟨q, 5, none⟩ = some (.int .u32 (un r.f)) ∧
      W.cell? ⟨q, 6, none⟩ = some (.int .u32 (un r.g)) ∧ W.cell? ⟨q, 7, none⟩ = some (.int .u32 (un r.h)) ∧ W.cell? ⟨p, k, none⟩ = some (.int .u32 (un kk)) ∧ W.cell? ⟨g, o + k, none⟩ = some (.int .u32 (un ww)) := by
  subst h1 h2
  exact ⟨h.2.2.1.cell 0 _ rfl, h.2.2.1.cell 1 _ rfl, h.2.2.1.cell 2 _ rfl, h.2.2.1.cell 3 _ rfl, h.2.2.1.cell 4 _ rfl, h.2.2.1.cell 5 _ rfl, h.2.2.1.cell 6 _ rfl, h.2.2.1.cell 7 _ rfl, h.2.1.2.2.cell k _ (Us_at ks k hk), (h.1.cellAt k hk _ (Us_at ws k (by omega))).1⟩
def Rw (w : World) (p : Nat) (bs : List UInt8) (l : List (BitVec 32)) (k : Nat) (v : Value) (wr : World) : Prop := RowQ wr (p + 1) 128 1 v k (Us (wl bs k)) ∧ Mx2 w wr p l
theorem run_bytei (W : World) (t : ByteArray) (bs : List UInt8) (hb : bs = t.data.toList) (j : Nat) (z : Int) (hz : z = (j : Int)) (h : j < t.size) : (Instr.index 9 (.string t) (.int .i64 z)).run Tryz.prog W = .ok (.int .u8 (ub (gb bs j))) W := by
  subst hz
  exact run_byte W t bs hb j h
set_option maxRecDepth 100000 in
set_option maxHeartbeats 8000000 in
theorem block_any (s : St) (t : ByteArray) (bs : List UInt8) (hb : bs = t.data.toList) (hl : bs.length = 64) (w : World) :
    Calls Tryz.prog 98 #[.agg (Us s.list).toArray, .string t] w fun e w' => e = .returned (.agg (Us (mix s bs).list).toArray) ∧ Below w.heap.size w w' := by
  have M0 := Lib.hid (Mx0.new w s.list)
  have z8 := z8_eq
  have z64 := z64_eq
  have ht : t.size = 64 := by rw [ba_size, ← hb]; exact hl
  have HBS := Lib.hid hb
  have HL := Lib.hid hl
  have HT := Lib.hid ht
  clear hb hl ht
  go_enter Tryz.func98, Tryz.ntmps98
  go_wp2_with fail
  refine (table_any _).mono ?_
  rintro e w2 ⟨rfl, hb2⟩
  have M2 := Lib.hid (M0.out.below hb2)
  clear hb2 M0
  have M3 := Lib.hid (Mx2.new M2.out)
  go_wp2_with (refine wpl_store rfl 160 (.tmp 5) _ rfl w2.heap.size (Us ks) rfl rfl 160 _ (Blk.new w2 160 zero64) (by rw [Tryz.size64]; rfl) (by simp [zero64]; rfl) (Us_one _) ?_)
  generalize (w2.alloc (.cells zero64.toArray 160)).setRow w2.heap.size (Us ks).toArray = W3 at M3 ⊢
  generalize w2.heap.size = p at M3 ⊢
  clear M2
  have T4 : (HT.out ▸ rfl : t.size = t.size) = rfl := rfl
  clear T4
  go_loopw [6, 7] (fun v i wr => ∃ k : Nat, k ≤ 64 ∧ i = .int .i64 k ∧ Rw w p bs s.list k v wr) (fun _ i _ => 64 - (intOf i).toNat)
  case atStart => exact ⟨0, by omega, rfl, RowQ.nil _ _ _ _, M3.out⟩
  case round =>
    obtain ⟨k, hk, rfl, hr, hM⟩ := hrel
    clear M3
    obtain ⟨A2, c2, rfl, hc2, hm2⟩ := hr.shape
    by_cases h64 : k < 64
    · have l1 : (k : Int) < 64 := by omega
      by_cases h16 : k < 16
      · have l2 : (k : Int) < 16 := by omega
        have hnx : part bs k 4 = next bs (wl bs k) k := by rw [next, if_pos h16]
        have hps := part_sum bs k
        rw [hnx] at hps
        have i0 := fun w => run_bytei w t bs HBS.out (4 * k) (4 * (k : Int)) (by omega) (by rw [HT.out]; omega)
        have i1 := fun w => run_bytei w t bs HBS.out (4 * k + 1) (4 * (k : Int) + 1) (by omega) (by rw [HT.out]; omega)
        have i2 := fun w => run_bytei w t bs HBS.out (4 * k + 2) (4 * (k : Int) + 2) (by omega) (by rw [HT.out]; omega)
        have i3 := fun w => run_bytei w t bs HBS.out (4 * k + 3) (4 * (k : Int) + 3) (by omega) (by rw [HT.out]; omega)
        generalize gb bs (4 * k) = b0 at hps i0
        generalize gb bs (4 * k + 1) = b1 at hps i1
        generalize gb bs (4 * k + 2) = b2 at hps i2
        generalize gb bs (4 * k + 3) = b3 at hps i3
        have PS := Lib.hid hps
        have q0 : IntKind.i64.wrap (4 * (k : Int)) = 4 * (k : Int) := by rw [IntKind.wrap_i64]; omega
        have q1 : IntKind.i64.wrap (4 * (k : Int) + 1) = 4 * (k : Int) + 1 := by rw [IntKind.wrap_i64]; omega
        have q2 : IntKind.i64.wrap (4 * (k : Int) + 2) = 4 * (k : Int) + 2 := by rw [IntKind.wrap_i64]; omega
        have q3 : IntKind.i64.wrap (4 * (k : Int) + 3) = 4 * (k : Int) + 3 := by rw [IntKind.wrap_i64]; omega
        have R2 := Lib.hid hr
        have B2 := Lib.hid hM
        clear hr hM hps hnx
        go_wp2
        refine wp_region_any (by kernel_rfl) ?_
        change wpAny _ _ _ _ _ _ _ (World.drew _)
        refine wpAny_take (i := 0) (v := ?_) rfl (by kernel_rfl) (by kernel_rfl) (by kernel_rfl) (fun _ _ _ h => h) (Or.inl ⟨by rfl, ?_⟩) ?_
        rotate_left
        · intro w; go_simp
          try rfl
        refine wpAny_head 1 30 (C := fun w' => ∃ n, w' = (World.drew wr).drewN n) ⟨0, rfl⟩ (by kernel_rfl) ?_ (by rfl)
        simp only [List.take_succ_cons, List.take_zero, List.drop_succ_cons, List.drop_zero]
        quiet_step (fail)
        repeat (go_big_quiet_step (fail))
        refine wpQuiet_nil ?_
        rintro _ ⟨nr, rfl⟩
        go_wp2_with (at_builtin; refine wpl_append rfl (.tmp 24) (.tmp 54) 162 rfl (p + 1) 128 (.int .u32 0) 1 4 Tryz.underlying162 Tryz.infoU rfl (by decide) (.slice A2 k c2) k (Us (wl bs k)) rfl (RowQ.alloc (show RowQ ((World.drew wr).drewN nr) (p + 1) 128 1 (.slice A2 k c2) k (Us (wl bs k)) from R2.out) _) _ 1 1 _ rfl (src_box1 _ _ _ rfl _ rfl) (by omega) (by omega) (by have := B2.out.lt; rw [hsz]; show p + 1 ≤ wr.heap.size + 1; omega) ?_; intro v3 w3 hr3 hg3 hat3; have R3 := Lib.hid hr3; have G3 := Lib.hid hg3; clear hr3 hg3 hat3)
        go_roundw
        case measure => show 64 - ((k : Int) + 1).toNat < 64 - (k : Int).toNat; omega
        case rel => exact ⟨k + 1, by omega, by go_num, by rw [wl, ← Us_snoc, ← PS.out, ← word_val]; exact R3.out, Mx2.grown ((B2.out.drewN _).alloc _) G3.out (fun k e => (R2.out.lt k e).1)⟩
      · have l2 : ¬ (k : Int) < 16 := by omega
        have l3 : (16 : Int) ≤ (k : Int) := by omega
        obtain ⟨g, o, hA, hpg, hgl⟩ := hr.blk (by omega)
        subst hA
        have cell : ∀ i, i < k → wr.cell? ⟨g, o + i, none⟩ = some (.int .u32 (un (gw (wl bs k) i))) := fun i hi => (hr.cellAt i hi _ (Us_at _ _ (by simp; exact hi))).1
        have e2 := cell (k - 2) (by omega)
        have e15 := cell (k - 15) (by omega)
        have e7 := cell (k - 7) (by omega)
        have e16 := cell (k - 16) (by omega)
        have hnx := next_val bs (wl bs k) k (by omega)
        generalize gw (wl bs k) (k - 2) = x2 at e2 hnx
        generalize gw (wl bs k) (k - 15) = x15 at e15 hnx
        generalize gw (wl bs k) (k - 7) = x7 at e7 hnx
        generalize gw (wl bs k) (k - 16) = x16 at e16 hnx
        have NX := Lib.hid hnx
        have R2 := Lib.hid hr
        have B2 := Lib.hid hM
        clear hr hM hnx cell
        go_wp2
        go_quiet (fail)
        go_wp2
        refine wp_region_any (by kernel_rfl) ?_
        change wpAny _ _ _ _ _ _ _ (World.drew (wr.drewN nq))
        have f7 : (World.drew (wr.drewN nq)).cell? ⟨g, o + (k - 7), none⟩ = some (.int .u32 (un x7)) := e7
        have f16 : (World.drew (wr.drewN nq)).cell? ⟨g, o + (k - 16), none⟩ = some (.int .u32 (un x16)) := e16
        have R7 : Hid (RowQ (World.drew (wr.drewN nq)) (p + 1) 128 1 (.slice (some ⟨g, o, none⟩) k c2) k (Us (wl bs k))) := Lib.hid R2.out
        have B7 := Lib.hid ((B2.out.drewN nq).drew)
        clear e2 e15 e7 e16 R2 B2
        generalize World.drew (wr.drewN nq) = w7 at f7 f16 R7 B7 ⊢
        refine wpAny_take (i := 0) (v := ?_) rfl (by kernel_rfl) (by kernel_rfl) (by kernel_rfl) (fun _ _ _ h => h) (Or.inl ⟨by rfl, ?_⟩) ?_
        rotate_left
        · intro w; go_simp
          try rfl
        refine wpAny_head 1 30 (C := fun w' => ∃ n, w' = w7.drewN n) ⟨0, rfl⟩ (by kernel_rfl) ?_ (by rfl)
        simp only [List.take_succ_cons, List.take_zero, List.drop_succ_cons, List.drop_zero]
        quiet_step (fail)
        repeat (go_big_quiet_step ((go_at_call 133; refine Calls.quiet_of (turn_any _ _ (by omega) (by omega) _))))
        refine wpQuiet_nil ?_
        rintro _ ⟨nr, rfl⟩
        go_wp2_with (at_builtin; refine wpl_append rfl (.tmp 66) (.tmp 96) 162 rfl (p + 1) 128 (.int .u32 0) 1 4 Tryz.underlying162 Tryz.infoU rfl (by decide) (.slice (some ⟨g, o, none⟩) k c2) k (Us (wl bs k)) rfl (RowQ.alloc (show RowQ (w7.drewN nr) (p + 1) 128 1 (.slice (some ⟨g, o, none⟩) k c2) k (Us (wl bs k)) from R7.out) _) _ 1 1 _ rfl (src_box1 _ _ _ rfl _ rfl) (by omega) (by omega) (by have := B7.out.lt; rw [hsz]; show p + 1 ≤ w7.heap.size + 1; omega) ?_; intro v3 w3 hr3 hg3 hat3; have R3 := Lib.hid hr3; have G3 := Lib.hid hg3; clear hr3 hg3 hat3)
        go_roundw
        case measure => show 64 - ((k : Int) + 1).toNat < 64 - (k : Int).toNat; omega
        case rel => exact ⟨k + 1, by omega, by go_num, by rw [wl, ← Us_snoc, NX.out]; exact R3.out, Mx2.grown ((B7.out.drewN _).alloc _) G3.out (fun k e => (R7.out.lt k e).1)⟩
    · have hk64 : k = 64 := by omega
      subst hk64
      obtain ⟨g, o, hA, hpg, hgl⟩ := hr.blk (by omega)
      subst hA
      have M6 := Lib.hid (Mx3.new hr hM s.list)
      have R5 := Lib.hid hM
      clear hr hM
      go_wp2_with (first
        | (refine wpl_load rfl 129 (.tmp 2) rfl w.heap.size rfl 129 _ R5.out.1.2.1 8 128 Tryz.underlying129 (by rw [Tryz.size8]; simp [St.list]) ?_)
        | (refine wpl_store rfl 129 (.tmp 10) _ rfl wr.heap.size (Us s.list) rfl rfl 129 _ (Blk.new wr 129 zero8) (by rw [Tryz.size8]; simp [St.list]) (by simp [zero8, St.list]) (Us_one _) ?_))
      generalize (wr.alloc (.cells zero8.toArray 129)).setRow wr.heap.size (Us s.list).toArray = W6 at M6 ⊢
      generalize wr.heap.size = q at M6 ⊢
      clear R5
      go_loopw [11] (fun i wr => ∃ k : Nat, k ≤ 64 ∧ i = .int .i64 k ∧ Mx3 w wr p q g o c2 (wl bs 64) s.list (rounds (wl bs 64) s k).list) (fun i _ => 64 - (intOf i).toNat)
      case atStart => exact ⟨0, by omega, rfl, M6.out⟩
      case round =>
        obtain ⟨k, hk, rfl, hT⟩ := hrel
        clear M6
        by_cases hlt : k < 64
        · have l1 : (k : Int) < 64 := by omega
          have HR : Hid (rounds (wl bs 64) s (k + 1) = round1 (rounds (wl bs 64) s k) (gw ks k) (gw (wl bs 64) k)) := rfl
          generalize rounds (wl bs 64) s k = r at hT HR
          have HR' := Lib.hid HR.out
          clear HR
          have HT := Lib.hid hT
          clear hT
          obtain ⟨kk, hkk⟩ : ∃ kk, gw ks k = kk := ⟨_, rfl⟩
          obtain ⟨ww, hww⟩ : ∃ ww, gw (wl bs 64) k = ww := ⟨_, rfl⟩
          rw [hkk, hww] at HR'
          have TEN := Lib.hid (fun (W1 : World) (h : Mx3 w W1 p q g o c2 (wl bs 64) s.list r.list) => h.ten k hlt (by simp) kk ww hkk hww)
          clear hkk hww
          obtain ⟨x0, x1, x2, x3, x4, x5, x6, x7, xk, xw⟩ := TEN.out _ HT.out
          go_wp2
          go_quiet (fail)
          clear x0 x1 x2 x3 x4 x5 x6 x7 xk xw
          have T7 := HT.out.drewN nq
          generalize wr.drewN nq = w7 at T7 ⊢
          clear HT
          obtain ⟨x0, x1, x2, x3, x4, x5, x6, x7, xk, xw⟩ := TEN.out _ T7
          have HT := Lib.hid T7
          clear T7
          go_wp2
          go_quiet ((go_at_call 133; refine Calls.quiet_of (turn_any _ _ (by omega) (by omega) _)))
          clear x0 x1 x2 x3 x4 x5 x6 x7 xk xw
          have T7 := HT.out.drewN nq
          generalize w7.drewN nq = w8 at T7 ⊢
          clear HT
          obtain ⟨x0, x1, x2, x3, x4, x5, x6, x7, xk, xw⟩ := TEN.out _ T7
          have HT := Lib.hid T7
          clear T7
          go_wp2
          go_quiet ((go_at_call 133; refine Calls.quiet_of (turn_any _ _ (by omega) (by omega) _)))
          have HT' := Lib.hid (HT.out.drewN)
          go_wp2_with (first
            | (refine wpl_build rfl 129 _ rfl (Us (round1 r kk ww).list) (by kernel_rfl) ?_)
            | (refine wpl_store rfl 129 (.tmp 10) _ rfl q (Us (round1 r kk ww).list) rfl rfl 129 _ (HT'.out _).2.2.1 (by rw [Tryz.size8]; simp [St.list]) (by simp [St.list]) (Us_one _) ?_))
          go_roundw
          case rel => exact ⟨k + 1, by omega, by go_num, by rw [HR'.out]; exact (HT'.out _).put _⟩
          case measure => simp [intOf]; omega
        · have e : k = 64 := by omega
          subst e
          have HM : Hid (mix s bs = s.add (rounds (wl bs 64) s 64)) := rfl
          generalize rounds (wl bs 64) s 64 = r at hT HM
          have HM' := Lib.hid HM.out
          have HT := Lib.hid hT
          clear hT HM
          go_wp2
          go_loopw [16] (fun i wr => ∃ k : Nat, k ≤ 8 ∧ i = .int .i64 k ∧ Mx3 w wr p q g o c2 (wl bs 64) (mixk s r k) r.list) (fun i _ => 8 - (intOf i).toNat)
          case atStart => exact ⟨0, by omega, rfl, by rw [mixk_zero]; exact HT.out⟩
          case round =>
            obtain ⟨k, hk, rfl, hT⟩ := hrel
            clear HT
            by_cases hlt : k < 8
            · have l1 : (k : Int) < 8 := by omega
              have c1 := hT.2.1.1.2.1.cell k _ (Us_at (mixk s r k) k (by rw [mixk_length s r k hk]; omega))
              rw [mixk_at s r k hlt] at c1
              have c2 := hT.2.2.1.cell k _ (Us_at r.list k (by simpa [St.list] using hlt))
              have c3 := hT.2.1.1.2.1.frozen k
              have HT := Lib.hid hT
              clear hT
              have HN := Lib.hid (mixk_set s r k hlt)
              generalize gw s.list k = x at c1 HN
              generalize gw r.list k = y at c2 HN
              go_wp2
              go_region
              go_wp2
              go_roundw
              case rel => exact ⟨k + 1, by omega, by go_num, by rw [← HN.out]; exact (HT.out.drewN _).box _ _⟩
              case measure => simp [intOf]; omega
            · have e : k = 8 := by omega
              subst e
              rw [mixk_all, ← HM'.out] at hT
              have HT := Lib.hid hT
              clear hT HM'
              obtain ⟨m, hm⟩ : ∃ m, m = mix s bs := ⟨_, rfl⟩
              rw [← hm] at HT
              have HM2 := Lib.hid hm
              clear hm
              go_wp2_with (first
                | (refine wpl_load rfl 129 (.tmp 2) rfl w.heap.size rfl 129 _ HT.out.2.1.1.2.1 8 128 Tryz.underlying129 (by rw [Tryz.size8]; simp [St.list]) ?_)
                | (refine wpl_store rfl 129 (.tmp 4) _ rfl (w.heap.size + 1) (Us m.list) rfl rfl 129 _ HT.out.2.1.1.2.2 (by rw [Tryz.size8]; simp [St.list]) (by simp [St.list]) (Us_one _) ?_))
              refine bodyPost_ret (v := .agg (Us m.list).toArray) (res_row rfl _ _ (w.heap.size + 1) 129 _ 8 128 rfl (HT.out.2.1.1.2.2.row _) Tryz.underlying129 (by rw [Tryz.size8]; simp [St.list])) rfl ⟨by rw [HM2.out], below_setRow' HT.out.2.1.1.1 (by omega) _⟩

attribute [local go_sem] un_shr24 un_shr16 un_shr8 ub_of_word un_mod256
section
variable {P : Program} {ops : Array Oper} {C : World → Prop}
/-- A whole array read, in the walk of what only reads. -/
theorem wpQuiet_load {Q : Act → Prop} {o : Oper} {rest : List Oper} {a : Act} (hgd : o.guard = none) (ty : TypeId) (x : Operand) (ho : o.op = .load ty x) (g : Nat) (hx : a.eval x = .pointer (some ⟨g, 0, none⟩)) (t : TypeId) (cs : List Value) (hb : ∀ w, C w → Blk w g t cs)
    (n : Nat) (e : TypeId) (hu : P.underlying ty = some (.array n e)) (hi : (P.info? ty).map (·.size) = some cs.length) (h : wpQuiet P ops C Q rest (a.put o.dst (.agg cs.toArray))) : wpQuiet P ops C Q (o :: rest) a := by
  unfold wpQuiet
  rw [if_pos (by simp [Region.wanted, hgd])]
  refine ⟨.agg cs.toArray, fun w hw => ?_, h⟩
  unfold Oper.quietAt execOp
  have hr : (Instr.loadAt ty (.pointer (some ⟨g, 0, none⟩))).run P w = .ok (.agg cs.toArray) w := by
    have := run_loadVar_row (P := P) w g t ty cs.toArray (0, 0) _ (hb w hw) hu rfl (by simpa using hi)
    simpa [Instr.loadAt, Instr.sureAddr] using this
  simp only [ho, hx]
  simp [hr, Oper.quietUpon]
end
theorem list_head : (Us st0.list).toArray = #[.int .u32 1779033703, .int .u32 3144134277, .int .u32 1013904242, .int .u32 2773480762, .int .u32 1359893119, .int .u32 2600822924, .int .u32 528734635, .int .u32 1541459225] := rfl
/-- What Sum keeps: what is handed back, the eight words. -/
def Rk (W : World) (h : List (BitVec 32)) (wr : World) : Prop := Below W.heap.size W wr ∧ Blk wr W.heap.size 29 zero32 ∧ Blk wr (W.heap.size + 1) 129 (Us h)
theorem Rk.new (W : World) (h : List (BitVec 32)) : Rk W h (((W.alloc (.cells zero32.toArray 29)).alloc (.cells zero8.toArray 129)).setRow (W.heap.size + 1) (Us h).toArray) := by
  have n := Blk.new (W.alloc (.cells zero32.toArray 29)) 129 zero8
  rw [hsz] at n
  exact ⟨below_setRow' (((Below.refl _ _).alloc (Nat.le_refl _) _).alloc (by rw [hsz]; omega) _) (by omega) _, ((Blk.new W _ _).alloc _).rowFar (by omega) _, n.row _⟩
theorem Rk.alloc {W wr : World} {h : List (BitVec 32)} (k : Rk W h wr) (o : Obj) : Rk W h (wr.alloc o) := ⟨k.1.alloc k.1.size o, k.2.1.alloc o, k.2.2.alloc o⟩
theorem Rk.drewN {W wr : World} {h : List (BitVec 32)} (k : Rk W h wr) (n : Nat) : Rk W h (wr.drewN n) := ⟨below_drewN k.1 n, k.2.1, k.2.2⟩
theorem Rk.below {W wr w1 : World} {h : List (BitVec 32)} (k : Rk W h wr) (hb : Below wr.heap.size wr w1) : Rk W h w1 := ⟨k.1.trans (hb.mono k.1.size), k.2.1.below hb, k.2.2.below hb⟩
theorem Rk.put {W wr : World} {h : List (BitVec 32)} (k : Rk W h wr) (h' : List (BitVec 32)) : Rk W h' (wr.setRow (W.heap.size + 1) (Us h').toArray) := ⟨below_setRow' k.1 (by omega) _, k.2.1.rowFar (by omega) _, k.2.2.row _⟩
def Wide (n : Nat) (bs : List UInt8) (j : Nat) (v : Value) : Prop := ∃ u : ByteArray, v = .string u ∧ u.data.toList = bs ++ 128 :: List.replicate j 0 ∧ u.size = n + 1 + j
theorem outB_at (S : St) (k : Nat) (h : k < 32) : un (gw S.list (k / 4)) / 2 ^ (24 - 8 * (k % 4)) % 256 = ub (gb (outB S) k) := by
  have e : ∀ x : BitVec 32, un x / 2 ^ 0 % 256 = ub (loB x) := fun x => by rw [← un_mod256]; simp
  have hk : k = 4 * (k / 4) + k % 4 := by omega
  generalize k / 4 = i at hk ⊢
  generalize hj : k % 4 = j at hk ⊢
  have hj4 : j < 4 := by omega
  subst hk
  have hi : i < 8 := by omega
  rcases j with _ | _ | _ | _ | j
  · rw [show (24 - 8 * 0) = 24 from rfl, un_shr, un_mod256]
    rcases i with _ | _ | _ | _ | _ | _ | _ | _ | i <;> first | rfl | omega
  · rw [show (24 - 8 * (0 + 1)) = 16 from rfl, un_shr, un_mod256]
    rcases i with _ | _ | _ | _ | _ | _ | _ | _ | i <;> first | rfl | omega
  · rw [show (24 - 8 * (0 + 1 + 1)) = 8 from rfl, un_shr, un_mod256]
    rcases i with _ | _ | _ | _ | _ | _ | _ | _ | i <;> first | rfl | omega
  · rw [show (24 - 8 * (0 + 1 + 1 + 1)) = 0 from rfl, e]
    rcases i with _ | _ | _ | _ | _ | _ | _ | _ | i <;> first | rfl | omega
  · omega
set_option maxRecDepth 100000 in
set_option maxHeartbeats 8000000 in
theorem refSum_any (W : World) (s : ByteArray) (bs : List UInt8) (hb : bs = s.data.toList) (n : Nat) (hn : s.size = n) (h1 : n ≤ 1048576) :
    Calls Tryz.prog 63 #[.string s] W fun e W' => e = .returned (.agg (Bs (sha256 bs)).toArray) ∧ Below W.heap.size W W' := by
  have hl : bs.length = n := by rw [hb, ← ba_size]; exact hn
  have K0 := Lib.hid (Rk.new W st0.list)
  have N0 := Lib.hid (Blk.new (W.alloc (.cells zero32.toArray 29)) 129 zero8)
  rw [hsz] at N0
  have z32 := z32_eq
  have z8 := z8_eq
  have HB := Lib.hid hb
  have HL := Lib.hid hl
  have h2 : (s.size : Int) ≤ 1048576 := by omega
  have HN := Lib.hid hn
  clear hb hl
  go_enter Tryz.func63, Tryz.ntmps63
  go_wp2_with (first
    | (refine wpl_build rfl 129 _ rfl (Us st0.list) (by kernel_rfl) ?_)
    | (refine wpl_store rfl 129 (.tmp 3) _ rfl (W.heap.size + 1) (Us st0.list) rfl rfl 129 _ N0.out (by rw [Tryz.size8]; rfl) rfl (Us_one _) ?_; generalize ((W.alloc (.cells zero32.toArray 29)).alloc (.cells zero8.toArray 129)).setRow (W.heap.size + 1) (Us st0.list).toArray = W1 at K0 ⊢; clear N0))
  go_loopg [4] (padz (n + 1)) (fun k v wr => ∃ j, Wide n bs j v ∧ j + k = padz (n + 1) ∧ Rk W st0.list wr)
  case atStart => exact ⟨0, ⟨_, rfl, by rw [ba_append, ← HB.out]; rfl, by rw [ba_size, ba_append, ← HB.out, List.length_append, HL.out]; rfl⟩, by omega, K0.out⟩
  case round =>
    obtain ⟨j, ⟨u, rfl, hu, huz⟩, hj, hK⟩ := hrel
    clear K0
    have hp := padz_lt (n + 1)
    have hm := padz_mod (n + 1)
    have u1 : (u.size : Int) ≤ 1048700 := by omega
    have HU := Lib.hid hu
    have HK := Lib.hid hK
    have HUZ := Lib.hid huz
    clear hu hK
    by_cases hd : (u.size : Int) % 64 = 56
    · have hd2 : ((u.size : Int) % 64 != 56) = false := by simp [hd]
      have hjz : j = padz (n + 1) := padz_of_mod (by omega) (by omega)
      subst hjz
      clear hd hp hm huz
      obtain ⟨b1, hb1⟩ : ∃ b, b = bs ++ 128 :: List.replicate (padz (n + 1)) 0 := ⟨_, rfl⟩
      have b1l : b1.length = n + 1 + padz (n + 1) := by rw [hb1, List.length_append, List.length_cons, List.length_replicate, HL.out]; omega
      have U1 : Hid (u.data.toList = b1) := by rw [hb1]; exact HU.out
      have HB1 := Lib.hid hb1
      have pl := padz_lt (n + 1)
      have pm := padz_mod (n + 1)
      clear hb1 HU HUZ hj
      go_wp2
      go_loopw [4, 5] (fun v i wr => ∃ k : Nat, ∃ u : ByteArray, k ≤ 8 ∧ i = .int .i64 (7 - (k : Int)) ∧ v = .string u ∧ u.data.toList = b1 ++ (len8 n).take k ∧ Rk W st0.list wr) (fun _ i _ => (intOf i + 1).toNat)
      case atStart => exact ⟨0, u, by omega, rfl, rfl, by simpa using U1.out, HK.out⟩
      case round =>
        obtain ⟨k, u, hk, rfl, rfl, hu, hK⟩ := hrel
        clear HK U1 hd2 u1
        have uz : u.size = b1.length + k := by rw [ba_size, hu, List.length_append, List.length_take, len8_length]; omega
        have u1 : (u.size : Int) ≤ 1048800 := by omega
        have HU := Lib.hid hu
        have HK := Lib.hid hK
        clear hu hK
        by_cases h8 : k = 8
        · subst h8
          obtain ⟨b, hb⟩ : ∃ b, b = b1 ++ len8 n := ⟨_, rfl⟩
          have U2 : Hid (b = u.data.toList) := by rw [hb, HU.out]; rfl
          obtain ⟨m, hm⟩ : ∃ m, b.length = 64 * m := ⟨b.length / 64, by rw [hb, List.length_append, len8_length]; omega⟩
          have hbz : u.size = 64 * m := by rw [ba_size, ← U2.out, hm]
          have hsha : sha256 bs = outB (absorb st0 b).1 := by
            unfold sha256 digest tailB
            rw [hb, HB1.out, HL.out, List.append_assoc]
          have HS := Lib.hid hsha
          have HM := Lib.hid hm
          clear hb hsha hm HB1 HU uz b1l pl pm
          have m1 : (u.size : Int) = 64 * (m : Int) := by omega
          have m2 : m ≤ 20000 := by omega
          go_wp2
          go_loopw [6] (fun i wr => ∃ k : Nat, ∃ S : St, k ≤ m ∧ i = .int .i64 (64 * (k : Int)) ∧ (absorb st0 b).1 = (absorb S (b.drop (64 * k))).1 ∧ Rk W S.list wr) (fun i _ => 64 * m - (intOf i).toNat)
          case atStart => exact ⟨0, st0, by omega, rfl, by simp, HK.out⟩
          case round =>
            obtain ⟨k, S, hk, rfl, hab, hK⟩ := hrel
            clear HK
            have HK := Lib.hid hK
            clear hK
            by_cases hkm : k < m
            · have k1 : 64 * (k : Int) < (u.size : Int) := by omega
              have k2 : 64 * (k : Int) + 64 ≤ (u.size : Int) := by omega
              have hlg : 64 ≤ (b.drop (64 * k)).length := by rw [List.length_drop, HM.out]; omega
              rw [absorb_long S _ hlg, List.drop_drop, show 64 * k + 64 = 64 * (k + 1) by omega] at hab
              obtain ⟨c, hc⟩ : ∃ c, c = (b.drop (64 * k)).take 64 := ⟨_, rfl⟩
              rw [← hc] at hab
              have hcl : c.length = 64 := by rw [hc, List.length_take]; omega
              have hct : c = (u.extract (64 * k) (64 * k + 64)).data.toList := by rw [hc, U2.out, ba_extract, List.drop_take, show 64 * k + 64 - 64 * k = 64 by omega]
              have HC := Lib.hid hct
              have HCL := Lib.hid hcl
              have HAB := Lib.hid hab
              clear hc hcl hct hab hlg
              go_wp2
              refine wp_region_any (by kernel_rfl) ?_
              change wpAny _ _ _ _ _ _ _ (World.drew _)
              refine wpAny_head 0 6 (C := fun w' => ∃ n, w' = (World.drew wr).drewN n) ⟨0, rfl⟩ (by kernel_rfl) ?_ (by rfl)
              simp only [List.take_succ_cons, List.take_zero, List.drop_succ_cons, List.drop_zero]
              refine wpQuiet_load rfl 129 (.tmp 3) rfl (W.heap.size + 1) rfl 129 (Us S.list) (fun w ⟨n, hw⟩ => by subst hw; exact HK.out.2.2) 8 128 Tryz.underlying129 (by rw [Tryz.size8]; simp [St.list]) ?_
              quiet_step (fail)
              repeat (go_big_quiet_step (fail))
              refine wpQuiet_nil ?_
              rintro _ ⟨nr, rfl⟩
              go_wp2_with (first
                | (go_at_call 98; refine (block_any S _ c HC.out HCL.out _).mono ?_; rintro e w5 ⟨rfl, hb5⟩; have K5 : Hid (Rk W S.list w5) := Lib.hid ((HK.out.drewN (1 + nr)).below hb5); clear hb5)
                | (refine wpl_store rfl 129 (.tmp 3) _ rfl (W.heap.size + 1) (Us (mix S c).list) rfl rfl 129 _ K5.out.2.2 (by rw [Tryz.size8]; simp [St.list]) (by simp [St.list]) (Us_one _) ?_))
              go_roundw
              case measure => simp [intOf]; omega
              case rel => ((repeat apply Exists.intro); exact ⟨⟨k + 1, mix S c, by omega, by go_num, HAB.out, K5.out.put _⟩, rfl⟩)
            · have hkm' : k = m := by omega
              subst hkm'
              rw [List.drop_of_length_le (by rw [HM.out]; omega), absorb_short S [] (by simp)] at hab
              have HAB := Lib.hid hab
              clear hab
              have hD : W.heap.size + 1 < wr.heap.size := HK.out.2.2.lt
              have B8 : Hid (Blk (wr.alloc (.cells zero32.toArray 29)) wr.heap.size 29 (Bs ((outB S).take 0 ++ List.replicate (32 - 0) 0))) := Lib.hid (Blk.new wr _ _)
              have K8 := Lib.hid (HK.out.alloc (.cells zero32.toArray 29))
              clear HK
              go_wp2
              generalize wr.alloc (.cells zero32.toArray 29) = W8 at B8 K8 ⊢
              generalize wr.heap.size = D at B8 hD ⊢
              go_loopw [8] (fun i wr => ∃ k : Nat, k ≤ 32 ∧ i = .int .i64 k ∧ Rk W S.list wr ∧ Blk wr D 29 (Bs ((outB S).take k ++ List.replicate (32 - k) 0))) (fun i _ => 32 - (intOf i).toNat)
              case atStart => exact ⟨0, by omega, rfl, K8.out, B8.out⟩
              case round =>
                obtain ⟨k, hk, rfl, hK, hD8⟩ := hrel
                clear B8 K8
                by_cases h32 : k < 32
                · have l1 : (k : Int) < 32 := by omega
                  have x1 := hK.2.2.cell (k / 4) _ (Us_at S.list (k / 4) (by simp [St.list]; omega))
                  have x2 := hD8.cell k (.int .u8 0) (by
                    have e : (Bs ((outB S).take k ++ List.replicate (32 - k) 0))[k]? = some (.int .u8 (ub (gb ((outB S).take k ++ List.replicate (32 - k) 0) k))) := Bs_at _ _ (by simp; omega)
                    rw [e]
                    have : gb ((outB S).take k ++ List.replicate (32 - k) 0) k = 0 := by
                      unfold gb
                      rw [List.getD_eq_getElem?_getD, List.getElem?_append_right (by rw [List.length_take, outB_length]; omega), show k - ((outB S).take k).length = 0 from by (rw [List.length_take, outB_length]; omega), show 32 - k = (32 - (k + 1)) + 1 by omega, List.replicate_succ]
                      rfl
                    rw [this]
                    rfl)
                  have x3 := hD8.frozen k
                  have hv := outB_at S k h32
                  generalize gw S.list (k / 4) = y at x1 hv
                  have HV := Lib.hid hv
                  have HK := Lib.hid hK
                  have H8 := Lib.hid hD8
                  obtain ⟨i, hi⟩ : ∃ i, i = k / 4 := ⟨_, rfl⟩
                  obtain ⟨j, hj⟩ : ∃ j, j = k % 4 := ⟨_, rfl⟩
                  rw [← hi] at x1
                  have q1 : ((k : Int).tdiv 4) = (i : Int) := by rw [Int.tdiv_eq_ediv_of_nonneg (by omega)]; omega
                  have q2 : ((k : Int) / 4) = (i : Int) := by omega
                  have q3 : ((k : Int).tmod 4) = (j : Int) := by rw [Int.tmod_eq_emod_of_nonneg (by omega)]; omega
                  have q4 : ((k : Int) % 4) = (j : Int) := by omega
                  have i8 : (i : Int) < 8 := by omega
                  have j4 : (j : Int) < 4 := by omega
                  have HJ := Lib.hid hj
                  clear hi hj
                  clear hv hK hD8
                  go_wp2
                  go_roundw
                  case measure => simp [intOf]; omega
                  case rel =>
                    have e : un y / 2 ^ (24 - 8 * j) % 256 = ub (gb (outB S) k) := by rw [HJ.out]; exact HV.out
                    rw [e]
                    refine ⟨k + 1, by omega, by go_num, ⟨HK.out.1.setCell (by show W.heap.size ≤ D; omega) _, HK.out.2.1.far (by show _ ≠ D; omega) _, HK.out.2.2.far (by show _ ≠ D; omega) _⟩, ?_⟩
                    have h9 := H8.out.setCell k (.int .u8 (ub (gb (outB S) k)))
                    rw [Bs_set] at h9
                    have e2 : ((outB S).take k ++ List.replicate (32 - k) (0 : UInt8)).set k (gb (outB S) k) = (outB S).take (k + 1) ++ List.replicate (32 - (k + 1)) 0 := by
                      rw [show 32 - k = (32 - (k + 1)) + 1 by omega, List.replicate_succ, List.set_append_right _ _ (by rw [List.length_take, outB_length]; omega), show k - ((outB S).take k).length = 0 from by (rw [List.length_take, outB_length]; omega), List.set_cons_zero, List.take_succ_eq_append_getElem (by rw [outB_length]; exact h32), List.append_assoc]
                      simp [gb, List.getD_eq_getElem?_getD, List.getElem?_eq_getElem (show k < (outB S).length by rw [outB_length]; exact h32)]
                    rwa [e2] at h9
                · have hk' : k = 32 := by omega
                  subst hk'
                  have h9 : Blk wr D 29 (Bs (outB S)) := hD8
                  have H9 := Lib.hid h9
                  have HK := Lib.hid hK
                  clear h9 hD8 hK
                  go_wp2_with (first
                    | (refine wpl_load rfl 29 (.tmp 7) rfl D rfl 29 (Bs (outB S)) H9.out 32 5 Tryz.underlying29 (by rw [Tryz.size32]; simp) ?_)
                    | (refine wpl_store rfl 29 (.tmp 2) _ rfl W.heap.size (Bs (outB S)) rfl rfl 29 _ HK.out.2.1 (by rw [Tryz.size32]; simp) (by simp [zero32]) (Bs_one _) ?_))
                  refine bodyPost_ret (v := .agg (Bs (outB S)).toArray) (res_row rfl _ _ W.heap.size 29 _ 32 5 rfl (HK.out.2.1.row _) Tryz.underlying29 (by rw [Tryz.size32]; simp)) rfl ⟨?_, below_setRow' HK.out.1 (Nat.le_refl _) _⟩
                  rw [HS.out, HAB.out]
        · have hk' : k < 8 := by omega
          obtain ⟨x, hx⟩ : ∃ x, x = lenB n (56 - 8 * k) := ⟨_, rfl⟩
          have HX := Lib.hid hx
          have HK8 := Lib.hid hk'
          have k7 : (0 : Int) ≤ 7 - (k : Int) := by omega
          have hX : (n : Int) * 8 / 2 ^ (8 * (7 - k)) % 256 = ub x := by
            rw [hx, show 8 * (7 - k) = 56 - 8 * k by omega]
            unfold lenB ub
            rw [show (n : Int) * 8 = ((8 * n : Nat) : Int) by omega, show ((2 : Int) ^ (56 - 8 * k)) = ((2 ^ (56 - 8 * k) : Nat) : Int) by simp, ← Int.natCast_ediv]
            simp
          clear hx hk' h8
          go_wp2_with (refine wpl_conv rfl 24 9 _ rfl (.string ⟨#[x]⟩) (run_str _ _ 1 1 [x] (src_box wr (ub x) _ rfl)) ?_)
          go_roundw
          case measure => simp [intOf]; omega
          case rel => exact ⟨k + 1, u ++ ⟨#[x]⟩, by have := HK8.out; omega, by go_num, rfl, by rw [ba_append, HU.out, take_len8 n k HK8.out, HX.out, List.append_assoc], HK.out.alloc _⟩
    · have hd2 : ((u.size : Int) % 64 != 56) = true := by simp [hd]
      have hlt : j < padz (n + 1) := by
        rcases Nat.lt_or_ge j (padz (n + 1)) with h | h
        · exact h
        · exfalso
          have e : j = padz (n + 1) := by omega
          rw [← e] at hm
          omega
      clear hd hp hm huz
      go_wp2
      go_roundg (padz (n + 1) - (j + 1))
      case measure => omega
      case rel => exact ⟨j + 1, ⟨_, rfl, by rw [ba_append, HU.out, List.replicate_succ', List.append_assoc]; rfl, by rw [ba_size, ba_append, List.length_append, ← ba_size, HUZ.out]; rfl⟩, by omega, HK.out⟩
end Go.Proofs.YtcomibocajjhoaaGreatDoor
namespace Go.Proofs.YtcomibocajjhoaaGreatDoor
section
variable {md : Region.Mode}
def chkL (md : Region.Mode) (ops : Array Oper) : List Oper → Nat → Bool
  | [], _ => true
  | o :: rest, k => (o.after.toList.all fun e => !Region.binds md e || decide (e.on < k)) && (rest.all fun oj => (oj.after.toList.any fun e => Region.binds md e && e.on == k) || o.apart ops oj) && chkL md ops rest (k + 1)
theorem lexFrom_of_chk {ops : Array Oper} : ∀ (rest : List Oper) (k : Nat) (listed : Array Bool), (∀ j, rest[j]? = ops[k + j]?) → (∀ j, j < ops.size → listed[j]? = some (decide (j < k))) → chkL md ops rest k = true → Region.lexFrom md ops rest.length k listed = true := by
  intro rest
  induction rest with
  | nil =>
    intro k listed hr hl _
    have hk : ops.size ≤ k := by
      have := (hr 0).symm
      simpa using this
    show (Region.ready md ops listed).isEmpty = true
    unfold Region.ready
    rw [List.isEmpty_iff, List.filter_eq_nil_iff]
    intro i hi
    have hi' := List.mem_range.1 hi
    have h1 : listed.getD i true = true := by
      rw [Array.getD_eq_getD_getElem?, hl i hi', Option.getD_some]
      exact decide_eq_true (by omega)
    rw [h1]
    simp
  | cons o rest ih =>
    intro k listed hr hl hc
    have h0 : ops[k]? = some o := by simpa using (hr 0).symm
    have hk : k < ops.size := (Array.getElem?_eq_some_iff.1 h0).1
    simp only [chkL, Bool.and_eq_true] at hc
    obtain ⟨⟨ha, hf⟩, hc'⟩ := hc
    have hg : ∀ (j : Nat) (d : Bool), j < ops.size → listed.getD j d = decide (j < k) := fun j d hj => by
      rw [Array.getD_eq_getD_getElem?, hl j hj, Option.getD_some]
    show ((Region.ready md ops listed).contains k && Region.free md ops listed k && Region.lexFrom md ops rest.length (k + 1) (listed.setIfInBounds k true)) = true
    rw [Bool.and_eq_true, Bool.and_eq_true]
    refine ⟨⟨?_, ?_⟩, ih (k + 1) _ (fun j => ?_) (fun j hj => ?_) hc'⟩
    · rw [List.contains_iff_mem]
      unfold Region.ready
      refine List.mem_filter.2 ⟨List.mem_range.2 hk, ?_⟩
      rw [hg k true hk, h0]
      simp only [Nat.lt_irrefl, decide_false, Bool.not_false, Option.map_some, Option.getD_some, Bool.true_and]
      rw [Array.all_eq_true_iff_forall_mem]
      intro e he
      have h1 := List.all_eq_true.1 ha e (Array.mem_toList_iff.2 he)
      rw [Bool.or_eq_true] at h1 ⊢
      rcases h1 with h1 | h1
      · exact .inl h1
      · have h2 := of_decide_eq_true h1
        exact .inr (by rw [hg e.on false (by omega)]; exact h1)
    · unfold Region.free
      rw [h0]
      show ((List.range ops.size).all _) = true
      rw [List.all_eq_true]
      intro j hj
      have hj' := List.mem_range.1 hj
      rw [hg j true hj']
      by_cases h1 : j = k
      · simp [h1]
      · by_cases h2 : j < k
        · simp [h2]
        · have h3 : ops[j]? = rest[j - (k + 1)]? := by
            have := hr (j - (k + 1) + 1)
            rw [List.getElem?_cons_succ] at this
            rw [this]
            congr 1
            omega
          rw [h3]
          cases h4 : rest[j - (k + 1)]? with
          | none => simp
          | some oj =>
            have h5 := List.all_eq_true.1 hf oj (List.mem_of_getElem? h4)
            rw [Bool.or_eq_true]
            refine .inr ?_
            show (oj.after.any _ || o.apart ops oj) = true
            rw [Bool.or_eq_true] at h5 ⊢
            rcases h5 with h5 | h5
            · refine .inl ?_
              obtain ⟨e, he, h6⟩ := List.any_eq_true.1 h5
              exact Array.any_eq_true'.2 ⟨e, Array.mem_toList_iff.1 he, h6⟩
            · exact .inr h5
    · have := hr (j + 1)
      rw [List.getElem?_cons_succ] at this
      rw [this]
      congr 1
      omega
    · rw [Array.getElem?_setIfInBounds]
      by_cases h1 : k = j
      · subst h1
        have h2 : k < listed.size := by
          have := hl k hk
          exact (Array.getElem?_eq_some_iff.1 this).1
        rw [if_pos rfl, if_pos h2]
        exact congrArg some (decide_eq_true (by omega)).symm
      · rw [if_neg h1, hl j hj]
        exact congrArg some (decide_eq_decide.2 (by omega))
theorem lexB_of_chk {l : List Oper} (hs : Region.noSelect l.toArray = true) (h : chkL md l.toArray l 0 = true) : Region.lexB md l.toArray = true := by
  unfold Region.lexB
  rw [hs, Bool.true_and]
  refine lexFrom_of_chk l 0 _ (fun j => by simp) (fun j hj => ?_) h
  rw [Array.getElem?_replicate, if_pos hj]
  simp
end
end Go.Proofs.YtcomibocajjhoaaGreatDoor
namespace Go.Proofs.YtcomibocajjhoaaGreatDoor
section
variable {P : Program} {ops : Array Oper} {md : Region.Mode}
/-- An operation that hands back a value, and never enters a function. -/
def plainOp : Op → Bool
  | .move _ | .assign _ | .binOp .. | .convert .. | .index .. => true
  | _ => false
theorem plain_value {ev : Operand → Value} {o : Oper} (h : plainOp o.op = true) {w w' : World} {n : Next} (hr : (execOp ev o).run P w = .ok n w') : ∃ v, n = .value v := by
  unfold execOp at hr
  have key : ∀ s : Sem Value, Sem.run P (do pure (Next.value (← s))) w = .ok n w' → ∃ v, n = .value v := by
    intro s hs
    rw [Sem.run_bind] at hs
    cases hx : Sem.run P s w with
    | ok v w1 =>
      rw [hx] at hs
      simp only [Result.andThen_ok, Sem.run_pure] at hs
      injection hs with h1 _
      exact ⟨v, h1.symm⟩
    | halt h1 w1 => rw [hx] at hs; cases hs
  cases ho : o.op <;> rw [ho] at h <;> simp only [ho] at hr <;> first
    | (simp [plainOp] at h; done)
    | exact key _ hr
    | (simp only [Sem.run_pure] at hr; injection hr with h1 _; exact ⟨_, h1.symm⟩)
def takesB (md : Region.Mode) (ops : Array Oper) : Nat → Nat → Array Bool → Bool
  | 0, _, _ => true
  | n + 1, k, listed => Region.free md ops listed k && (Region.ready md ops listed).contains k && (match ops[k]? with | some o => plainOp o.op | none => false) && takesB md ops n (k + 1) (listed.setIfInBounds k true)
def tookL : Nat → Nat → Array Bool → Array Bool
  | 0, _, l => l
  | n + 1, k, l => tookL n (k + 1) (l.setIfInBounds k true)
theorem wpAny_takes {Q : Exit → Act → World → Prop} {w : World} {g : Nat} (hs : Region.noSelect ops = true) (hQ : ∀ c a w d v, Q (.panic c) (Act.put a d v) w → Q (.panic c) a w) (l : List Oper) :
    ∀ (k : Nat) (listed : Array Bool) (a : Act), (∀ j, j < l.length → l[j]? = ops[k + j]?) → takesB md ops l.length k listed = true →
      wpQuiet P ops (fun _ => True) (fun a' => wpAny P md ops Q g (tookL l.length k listed) a' w) l a → wpAny P md ops Q (g + l.length) listed a w := by
  induction l with
  | nil => intro k listed a _ _ h; exact h
  | cons o l ih =>
    intro k listed a hl hB h
    have h0 : ops[k]? = some o := by simpa using (hl 0 (by simp)).symm
    simp only [List.length_cons, takesB, Bool.and_eq_true, h0] at hB
    obtain ⟨⟨⟨hf, hr⟩, hp⟩, hB'⟩ := hB
    have hq : qOp P ops (fun _ => True) k (wpQuiet P ops (fun _ => True) (fun a' => wpAny P md ops Q g (tookL l.length (k + 1) (listed.setIfInBounds k true)) a' w) l) a := by
      unfold qOp; simp only [h0]; exact h
    obtain ⟨v, hy, hK⟩ := yieldsIn_of_qOp h0 hq
    have hY : Yields P ops o v a := by
      rcases hy with ⟨h1, h2⟩ | h1
      · refine Or.inl ⟨h1, fun w1 => ?_⟩
        have h3 := h2 w1 trivial
        unfold Oper.quietAt at h3
        cases hx : (execOp a.eval o).run P w1 with
        | ok n w2 =>
          obtain ⟨v', rfl⟩ := plain_value hp hx
          rw [hx] at h3
          obtain ⟨rfl, rfl⟩ := h3
          rfl
        | halt x1 x2 => rw [hx] at h3; exact False.elim h3
      · exact Or.inr h1
    have e : g + (o :: l).length = g + l.length + 1 := by rw [List.length_cons]; omega
    rw [e]
    exact wpAny_take h0 hs hf hr (fun c a w => hQ c a w _ _) hY (ih (k + 1) _ _ (fun j hj => by
      have := hl (j + 1) (by simp; omega)
      simpa [Nat.add_assoc, Nat.add_comm 1 j] using this) hB' hK)
theorem wpAny_prefix {Q : Exit → Act → World → Prop} {w : World} {l : List Oper} {listed : Array Bool} {a : Act} {m : Nat} (n g : Nat) (hm : m = g + n) (hs : (Region.noSelect l.toArray && decide (n ≤ l.length) && takesB md l.toArray n 0 listed) = true)
    (hQ : ∀ c a w d v, Q (.panic c) (Act.put a d v) w → Q (.panic c) a w)
    (h : wpQuiet P l.toArray (fun _ => True) (fun a' => wpAny P md l.toArray Q g (tookL n 0 listed) a' w) (l.take n) a) : wpAny P md l.toArray Q m listed a w := by
  simp only [Bool.and_eq_true, decide_eq_true_eq] at hs
  obtain ⟨⟨h1, h2⟩, h3⟩ := hs
  have e : (l.take n).length = n := by rw [List.length_take]; omega
  have := wpAny_takes (P := P) (md := md) (Q := Q) (w := w) (g := g) h1 hQ (l.take n) 0 listed a (fun j hj => by
    rw [List.getElem?_take, if_pos (by omega)]; simp) (by rw [e]; exact h3) (by rw [e]; exact h)
  rw [e] at this
  rw [hm]
  exact this
end
end Go.Proofs.YtcomibocajjhoaaGreatDoor
