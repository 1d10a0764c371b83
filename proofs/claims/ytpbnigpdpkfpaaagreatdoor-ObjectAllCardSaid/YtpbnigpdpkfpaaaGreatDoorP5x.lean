/- Rows of integers: a cut of one, a cell of one, a cell written; a whole array read in a drawn region. A row of noughts is made, and filled. A region that draws its order: its first operations only read (calls that only draw among them), the others come one by one behind all of those; some of the first may have come up already. One whose callees lay new memory only. The document's answer for a name: digits back (number, GetHex). The document's answer for a name: GetHex. oid.Get: a name out of digits. A region that draws its order: its first operations only read, or lay new memory; each of the others waits for the first of those behind them. What stands behind is walked on by itself. -/
import Derived.Test.YtpbnigpdpkfpaaaGreatDoorP3x
import Derived.Test.YtpbnigpdpkfpaaaGreatDoorP2x
import Derived.Laws.MakeOwn
import Derived.Deep.QuietTactic
import Derived.BigQuiet
import Derived.StillTail
import Derived.Test.YtpbnigpdpkfpaaaGreatDoorP8x
import Derived.Lib.SlBytesConst
namespace Go.Proofs.YtpbnigpdpkfpaaaGreatDoor
open Go.RowKit
theorem Src.take {w : World} {A : Option Addr} {n : Nat} {xs : List Value} (h : Src w 1 A n xs) (q : Nat) (hq : q ≤ n) : Src w 1 A q (xs.take q) := by
  refine ⟨by rw [List.length_take, h.1]; omega, fun h0 => ?_, fun u hu => h.2.2 u (List.mem_of_mem_take hu)⟩
  obtain ⟨ad, ha, hx⟩ := h.2.1 (by omega)
  refine ⟨ad, ha, fun j u hj => hx j u ?_⟩
  rw [List.getElem?_take] at hj
  split at hj
  · exact hj
  · cases hj
theorem RowQ.cellAt {w : World} {base : Nat} {e : TypeId} {g o n c : Nat} {xs : List Value} (h : RowQ w base e 1 (.slice (some ⟨g, o, none⟩) n c) n xs) (k : Nat) (hk : k < n) (v : Value) (hx : xs[k]? = some v) :
    w.cell? ⟨g, o + k, none⟩ = some v ∧ w.frozen? ⟨g, o + k, none⟩ = false := by
  rcases h.2 with ⟨hv, _⟩ | ⟨g', o', cap, cur, hv, hbg, hg, hnc, hcm, hcs, ht⟩
  · injection hv with h1; cases h1
  · injection hv with hA _ hc
    injection hA with hA
    injection hA with h1 h2 _
    subst h1; subst h2; subst hc
    refine ⟨?_, frozen_of_row w g (o + k) cur e hg⟩
    rw [cell_of_row w g (o + k) cur e (0, 0) hg]
    rw [← ht, List.getElem?_take] at hx
    rw [if_pos (by omega), List.getElem?_drop] at hx
    simpa using hx
theorem RowQ.blk {w : World} {base : Nat} {e : TypeId} {A : Option Addr} {n c : Nat} {xs : List Value} (h : RowQ w base e 1 (.slice A n c) n xs) (hn : 0 < n) : ∃ g o, A = some ⟨g, o, none⟩ ∧ base ≤ g ∧ g < w.heap.size := by
  rcases h.2 with ⟨hv, hn0⟩ | ⟨g, o, cap, cur, hv, hbg, hg, _⟩
  · omega
  · injection hv with hA
    exact ⟨g, o, hA, hbg, (Array.getElem?_eq_some_iff.1 hg).1⟩
theorem RowQ.ad {w : World} {base : Nat} {e : TypeId} {A : Option Addr} {n c : Nat} {xs : List Value} (h : RowQ w base e 1 (.slice A n c) n xs) : ∀ ad, A = some ad → base ≤ ad.block ∧ ad.block < w.heap.size :=
  fun ad e => h.lt ad.block (by subst e; rfl)
/-- A text's byte. -/
theorem run_byte (W : World) (s : ByteArray) (l : List UInt8) (hl : l = s.data.toList) (k : Nat) (h : k < s.size) : (Instr.index 9 (.string s) (.int .i64 k)).run Tryz.prog W = .ok (.int .u8 (ub (gb l k))) W := by
  have hu : Tryz.prog.underlying 9 = some .string := by kernel_rfl
  have hk : k < l.length := by rw [hl, ← ba_size]; exact h
  have e1 : s[k]'h = s.data.toList[k]'(by rw [← ba_size]; exact h) := rfl
  have e : s[k]? = some (gb l k) := by
    rw [getElem?_pos s k h, e1]
    subst hl
    simp only [gb, List.getD_eq_getElem?_getD, List.getElem?_eq_getElem hk, Option.getD_some]
  unfold Instr.index
  simp [go_sem, e]
  rfl
/-- A cut of a row, from a place on. -/
theorem RowQ.mid {w : World} {base : Nat} {A : Option Addr} {n c : Nat} {l : List UInt8} (h : RowQ w base 5 1 (.slice A n c) n (Bs l)) (i m : Nat) (hm : i + m ≤ n) :
    Src w 1 (if c = i then A else A.map (·.add i)) m (Bs ((l.drop i).take m)) := by
  have hl : l.length = n := by have := h.1; simpa using this
  refine ⟨by rw [Bs_length, List.length_take, List.length_drop]; omega, fun h0 => ?_, Bs_one _⟩
  have hs := h.src (Bs_one _)
  obtain ⟨ad, rfl, hc⟩ := hs.2.1 (by omega)
  have hci : c ≠ i := by
    obtain ⟨A1, c1, e, h1, _⟩ := h.shape
    injection e with _ _ e
    omega
  rw [if_neg hci]
  refine ⟨ad.add i, rfl, fun j u hu => ?_⟩
  have hj : j < m := by
    rcases Nat.lt_or_ge j m with h | h
    · exact h
    · have e : (Bs ((l.drop i).take m))[j]? = none := List.getElem?_eq_none (by rw [Bs_length, List.length_take, List.length_drop]; omega)
      rw [e] at hu; cases hu
  have := hc (i + j) u (by
    rw [← hu]
    simp [Bs, hj, List.getElem?_drop])
  have ha : (ad.add i).add j = ad.add (i + j) := by
    unfold Addr.add
    by_cases h1 : i = 0 <;> by_cases h2 : j = 0 <;> simp [h1, h2, Nat.add_assoc]
  rw [ha]
  exact this
end Go.Proofs.YtpbnigpdpkfpaaaGreatDoor
namespace Go.Proofs.YtpbnigpdpkfpaaaGreatDoor
open Go.RowKit
theorem ub_of (c : Int) (h0 : 0 ≤ c) (h1 : c < 256) : ∃ x : UInt8, c = ub x := ⟨UInt8.ofNat c.toNat, by unfold ub; rw [UInt8.toNat_ofNat']; omega⟩
theorem Blk.src {w : World} {g : Nat} {t : TypeId} {cs : List Value} (h : Blk w g t cs) (h1 : ∀ v ∈ cs, v.oneCell' = true) (n : Nat) (hn : cs.length = n) : Src w 1 (some ⟨g, 0, none⟩) n cs :=
  ⟨by omega, fun _ => ⟨_, rfl, fun j u hu => by
    have ha : (⟨g, 0, none⟩ : Addr).add j = ⟨g, j, none⟩ := by unfold Addr.add; split <;> simp_all
    rw [ha]; exact h.cell j u hu⟩, h1⟩
/-- The row while it is filled. -/
def fillF (f : Nat → UInt8) (n k : Nat) : List UInt8 := (List.range k).map f ++ List.replicate (n - k) 0
end Go.Proofs.YtpbnigpdpkfpaaaGreatDoor
namespace Go.Proofs.YtpbnigpdpkfpaaaGreatDoor
section
variable {P : Program} {ops : Array Oper} {md : Region.Mode} {C : World → Prop}
/-- Whatever order the first operations are picked in. -/
def headQ (P : Program) (md : Region.Mode) (ops : Array Oper) (C : World → Prop) (n : Nat) (L : Array Bool → Act → Prop) : Nat → Array Bool → Act → Prop
  | 0, listed, a => L listed a
  | f + 1, listed, a => Region.ready md ops listed ≠ [] ∧ ∀ i ∈ Region.ready md ops listed, i < n ∧ qOp P ops C i (headQ P md ops C n L f (listed.setIfInBounds i true)) a
theorem headQ_any {n g : Nat} {L : Array Bool → Act → Prop} {Q : Exit → Act → World → Prop} (hL : ∀ listed a w, C w → L listed a → wpAny P md ops Q g listed a w) (f : Nat) :
    ∀ (listed : Array Bool) (a : Act) (w : World), C w → headQ P md ops C n L f listed a → wpAny P md ops Q (f + g) listed a w := by
  induction f with
  | zero => intro listed a w hw h; rw [Nat.zero_add]; exact hL _ _ _ hw h
  | succ f ih =>
    intro listed a w hw h
    have e : f + 1 + g = f + g + 1 := by omega
    rw [e]
    exact ⟨fun h0 => absurd h0 h.1, fun i hi => wpOp_of_qOp hw (fun a' w' hw' h' => ih _ a' w' hw' h') (h.2 i hi).2⟩
/-- Each of the first n that has not come up yet is waited for. -/
def sinkL (md : Region.Mode) (ops : Array Oper) (n : Nat) (l0 : Array Bool) : Bool :=
  (List.range n).all fun i => l0.getD i false || (List.range (n + 1)).any fun j => decide (i < j) && Region.waitsFor md ops j i
/-- What is known of those that came up. -/
structure Came (md : Region.Mode) (ops : Array Oper) (n : Nat) (l0 listed : Array Bool) : Prop where
  inv : HeadInv md ops n listed
  sub : ∀ j, l0.getD j false = true → listed.getD j false = true
theorem Came.set {n i : Nat} {l0 listed : Array Bool} (h : Came md ops n l0 listed) (hi : i ∈ Region.ready md ops listed) (hin : i < n) : Came md ops n l0 (listed.setIfInBounds i true) :=
  ⟨h.inv.set hi hin, fun j hj => getD_set_true (h.sub j hj)⟩
theorem first_waits {n : Nat} {l0 listed : Array Bool} (hs : sinkL md ops n l0 = true) (h : Came md ops n l0 listed) (d : Nat) :
    ∀ i, n - i = d → i < n → listed.getD i false = false → n ∉ Region.ready md ops listed := by
  induction d using Nat.strongRecOn with
  | _ d ih =>
    intro i hd hi hun hr
    have h1 := List.all_eq_true.1 hs i (List.mem_range.2 hi)
    rw [Bool.or_eq_true] at h1
    rcases h1 with h1 | h1
    · rw [h.sub i h1] at hun; cases hun
    · obtain ⟨j, hj, hw⟩ := List.any_eq_true.1 h1
      rw [Bool.and_eq_true, decide_eq_true_eq] at hw
      obtain ⟨oj, hoj, e, he, hb, hon⟩ := Region.waitsFor_spec hw.2
      have hjn := List.mem_range.1 hj
      by_cases hjt : j = n
      · subst hjt
        obtain ⟨_, ot, hot, hall⟩ := mem_ready.1 hr
        obtain rfl : oj = ot := Option.some.inj (hoj.symm.trans hot)
        have := hall e he hb
        rw [hon, hun] at this
        cases this
      · cases hl : listed.getD j false with
        | true =>
          have := h.inv.closed j oj hoj hl e he hb
          rw [hon, hun] at this
          cases this
        | false => exact ih (n - j) (by omega) j rfl (by omega) hl hr
theorem rest_waits {n i : Nat} {l0 listed : Array Bool} (hs : sinkL md ops n l0 = true) (hc : Region.chainB md ops n = true) (h : Came md ops n l0 listed) (hi : i < n) (hun : listed.getD i false = false) :
    ∀ t, n ≤ t → t ∉ Region.ready md ops listed := by
  intro t ht hr
  rcases Nat.lt_or_ge n t with h1 | h1
  · obtain ⟨_, ot, hot, hall⟩ := mem_ready.1 hr
    have htl := (Array.getElem?_eq_some_iff.1 hot).1
    have h2 := List.all_eq_true.1 hc t (List.mem_range.2 htl)
    rw [Bool.or_eq_true, decide_eq_true_eq] at h2
    rcases h2 with h2 | h2
    · omega
    · obtain ⟨o', ho', e, he, hb, hon⟩ := Region.waitsFor_spec h2
      obtain rfl : o' = ot := Option.some.inj (ho'.symm.trans hot)
      have h3 := hall e he hb
      rw [hon, getD_both (h.inv.tail (t - 1) (by omega) (by omega))] at h3
      cases h3
  · obtain rfl : t = n := by omega
    exact first_waits hs h (t - i) i rfl hi hun hr
/-- One that may come up, and is apart from what may come up beside it, may be taken first. -/
theorem headQ_first {n i : Nat} {oi : Oper} {v : Value} {L : Array Bool → Act → Prop} {l0 : Array Bool} (hi : ops[i]? = some oi) (hsel : Region.noSelect ops = true) (hs : sinkL md ops n l0 = true) (hc : Region.chainB md ops n = true) (hin : i < n)
    (hdone : ∀ listed a, L listed a → ∀ j ∈ Region.ready md ops listed, n ≤ j) (f : Nat) :
    ∀ (listed : Array Bool) (a : Act), Came md ops n l0 listed →
      (∀ j oj, ops[j]? = some oj → j ≠ i → listed.getD j true = false → (∀ e ∈ oj.after, Region.binds md e = true → e.on ≠ i) → oi.apart ops oj = true) →
      i ∈ Region.ready md ops listed → YieldsIn P ops C oi v a → headQ P md ops C n L f (listed.setIfInBounds i true) (a.put oi.dst v) → headQ P md ops C n L (f + 1) listed a := by
  have ns := Region.noSelect_spec hsel
  induction f with
  | zero =>
    intro listed a inv _ hr hy H
    have hun := getD_both (mem_ready.1 hr).1
    refine ⟨fun e => (by rw [e] at hr; cases hr), fun j hj => ?_⟩
    have hjn : j < n := Nat.lt_of_not_ge fun hge => rest_waits hs hc inv hin hun j hge hj
    by_cases hji : j = i
    · subst hji; exact ⟨hjn, hy.qOp hi H⟩
    · have := hdone _ _ H j (ready_mono hj hji)
      omega
  | succ f ih =>
    intro listed a inv hfree hr hy H
    have hun := getD_both (mem_ready.1 hr).1
    refine ⟨fun e => (by rw [e] at hr; cases hr), fun j hj => ?_⟩
    have hjn : j < n := Nat.lt_of_not_ge fun hge => rest_waits hs hc inv hin hun j hge hj
    refine ⟨hjn, ?_⟩
    by_cases hji : j = i
    · subst hji; exact hy.qOp hi H
    · obtain ⟨hjun, oj, hoj, hall⟩ := mem_ready.1 hj
      have hnot : ∀ e ∈ oj.after, Region.binds md e = true → e.on ≠ i := fun e he hb heq => by
        have := hall e he hb
        rw [heq, hun] at this
        cases this
      have h2 := qOp_put hoj (hfree j oj hoj hji hjun hnot) (fun cs b => ns i oi cs b hi) (fun cs b => ns j oj cs b hoj) hy (H.2 j (ready_mono hj hji)).2
      refine qOp_mono (fun a' h3 => ih _ a' (inv.set hj hjn) (fun k ok hk hki hkun hno => hfree k ok hk hki ?_ hno) (ready_mono hr (Ne.symm hji)) h3.1 ?_) h2
      · by_cases hjk : j = k
        · subst hjk; exact hjun
        · rwa [getD_set_ne true hjk] at hkun
      · rw [Array.setIfInBounds_comm _ _ hji]
        exact h3.2
/-- The walk in the text's order serves each order of the first operations. -/
theorem headQ_lex {n g : Nat} {Lq : Act → Prop} {l0 : Array Bool} (hsel : Region.noSelect ops = true) (hs : sinkL md ops n l0 = true) (hc : Region.chainB md ops n = true) (l : List Oper) :
    ∀ (k : Nat) (listed : Array Bool) (a : Act), (∀ j, j < l.length → l[j]? = ops[k + j]?) → k + l.length = n → Came md ops n l0 listed → Region.lexHead md ops g l.length k listed = true → wpQuiet P ops C Lq l a →
      headQ P md ops C n (fun listed' a' => Region.seqB md ops g n listed' = true ∧ Lq a') l.length listed a := by
  induction l with
  | nil =>
    intro k listed a _ hk _ hB h
    obtain rfl : k = n := by simpa using hk
    exact ⟨by simpa [Region.lexHead] using hB, h⟩
  | cons o l ih =>
    intro k listed a hl hk inv hB h
    have h0 : ops[k]? = some o := by simpa using (hl 0 (by simp)).symm
    simp only [List.length_cons, Region.lexHead, Bool.and_eq_true] at hB
    have hkn : k < n := by simp only [List.length_cons] at hk; omega
    have hr : k ∈ Region.ready md ops listed := by simpa using hB.1.1
    have hq : qOp P ops C k (wpQuiet P ops C Lq l) a := by unfold qOp; simp only [h0]; exact h
    obtain ⟨v, hy, hK⟩ := yieldsIn_of_qOp h0 hq
    refine headQ_first h0 hsel hs hc hkn (fun listed' a' hL => seqB_ready hL.1) l.length listed a inv (Region.free_spec h0 hB.1.2) hr hy ?_
    refine ih (k + 1) _ _ (fun j hj => ?_) (by simp only [List.length_cons] at hk; omega) (inv.set hr hkn) hB.2 hK
    have := hl (j + 1) (by simp; omega)
    simpa [Nat.add_assoc, Nat.add_comm 1 j] using this
/-- What is checked of the region, of those that came up. -/
def tailOk (md : Region.Mode) (ops : Array Oper) (k n : Nat) (listed : Array Bool) : Bool :=
  Region.noSelect ops && decide (k ≤ n) && decide (n < ops.size) && sinkL md ops n listed && Region.chainB md ops n && Region.lexHead md ops (ops.size - n) (n - k) k listed && decide (listed.size = ops.size)
    && ((List.range ops.size).all fun j => !listed.getD j false || match ops[j]? with
        | some oj => oj.after.all fun e => !Region.binds md e || listed.getD e.on false
        | none => false)
    && ((List.range ops.size).all fun t => decide (t < n) || !listed.getD t true)
theorem wpAny_head {l : List Oper} {Q : Exit → Act → World → Prop} {listed : Array Bool} {a : Act} {w : World} (k n : Nat) (hw : C w) (hB : tailOk md l.toArray k n listed = true)
    (h : wpQuiet P l.toArray C (fun a' => ∀ w', C w' → wpList P l.toArray Q (l.drop n) a' w') ((l.take n).drop k) a) {m : Nat} (hm : m = l.length - k) : wpAny P md l.toArray Q m listed a w := by
  subst hm
  unfold tailOk at hB
  simp only [Bool.and_eq_true, decide_eq_true_eq] at hB
  obtain ⟨⟨⟨⟨⟨⟨⟨⟨hsel, hkn⟩, hn⟩, hs⟩, hc⟩, hlex⟩, hsz⟩, hcl⟩, htl⟩ := hB
  have hn' : n < l.length := by simpa using hn
  have hlen : ((l.take n).drop k).length = n - k := by rw [List.length_drop, List.length_take]; omega
  have came : Came md l.toArray n listed listed := by
    refine ⟨⟨hsz, fun j oj hoj hl e he hb => ?_, fun t ht ht' => ?_⟩, fun _ h => h⟩
    · have hj := (Array.getElem?_eq_some_iff.1 hoj).1
      have h1 := List.all_eq_true.1 hcl j (List.mem_range.2 hj)
      simp only [hl, Bool.not_true, Bool.false_or, hoj] at h1
      have h2 := Array.all_eq_true_iff_forall_mem.1 h1 e he
      simpa [hb] using h2
    · have h1 := List.all_eq_true.1 htl t (List.mem_range.2 ht')
      simp only [Bool.or_eq_true, decide_eq_true_eq, Bool.not_eq_true'] at h1
      rcases h1 with h1 | h1
      · omega
      · exact h1
  have H := headQ_lex (md := md) (g := l.toArray.size - n) hsel hs hc ((l.take n).drop k) k listed a (fun j hj => by
    rw [hlen] at hj
    simp only [List.getElem?_drop, List.getElem?_toArray]
    rw [List.getElem?_take, if_pos (by omega)]) (by rw [hlen]; omega) came (by rw [hlen]; exact hlex) h
  have e : l.length - k = ((l.take n).drop k).length + (l.toArray.size - n) := by rw [hlen]; simp; omega
  rw [e]
  refine headQ_any (fun listed' a' w' hw' hL => ?_) _ listed a w hw H
  have hd : l.toArray.size - n = (l.drop n).length := by simp
  rw [hd]
  rw [hd] at hL
  exact wpAny_of_seq (l.drop n) n listed' a' w' (fun j => by simp) hL.1 (hL.2 w' hw')
/-- A region that draws its order, each of whose operations hands back one value in every world of a class and leaves it in the class. -/
theorem wp_region_class {id : Nat} {Q : Exit → Act → World → Prop} {a : Act} {w : World} {l : List Oper} (hm : P.follows .mixedOrders = true) (hB : Region.lexB .any l.toArray = true) (hC : C w.drew)
    (h : wpQuiet P l.toArray C (fun a' => ∀ w', C w' → Q .normal a' w') l a) : (Code.region id l.toArray true).wp P Q a w :=
  wp_region_quiet hm hB hC (by simpa using h)
/-- One operation of the walk of what only reads: a value. -/
theorem wpQuiet_val {Q : Act → Prop} {o : Oper} {rest : List Oper} {a : Act} (hgd : Region.wanted o (yielded ops a.tmps) = true) (v : Value) (h0 : ∀ w, C w → (execOp a.eval o).run P w = .ok (.value v) w)
    (h : wpQuiet P ops C Q rest (a.put o.dst v)) : wpQuiet P ops C Q (o :: rest) a := by
  unfold wpQuiet
  rw [if_pos hgd]
  refine ⟨v, fun w hw => ?_, h⟩
  unfold Oper.quietAt
  rw [h0 w hw]
  exact ⟨rfl, rfl⟩
end

open Go.RowKit
/-- A world that extends w. -/
def Ext (w : World) : Type := { w' : World // Below w.heap.size w w' }
def Ext.at_ {w : World} (s : Ext w) : World := s.1
theorem Ext.below {w : World} (s : Ext w) : Below w.heap.size w s.at_ := s.2
theorem ext_nonempty (w : World) : Nonempty (Ext w) := ⟨⟨w, Below.refl _ _⟩⟩
theorem Ext.call {P : Program} {f : FuncId} {args : Array Value} {w : World} {s : Ext w} {v : Value} (h : Calls P f args s.at_ fun e w' => e = .returned v ∧ Below s.at_.heap.size s.at_ w') :
    Calls P f args s.at_ fun e w' => e = .returned v ∧ ∃ s' : Ext w, w' = s'.at_ :=
  h.mono fun _ w' ⟨he, hb⟩ => ⟨he, ⟨w', s.2.trans (hb.mono s.2.size)⟩, rfl⟩
section
variable {P : Program}
theorem wp_region_ext {id : Nat} {Q : Exit → Act → World → Prop} {a : Act} {w : World} {l : List Oper} (hm : P.follows .mixedOrders = true) (hB : Region.lexB .any l.toArray = true)
    (h : wpQuiet P l.toArray (fun w' => ∃ s : Ext w, w' = s.at_) (fun a' => ∀ w', (∃ s : Ext w, w' = s.at_) → Q .normal a' w') l a) : (Code.region id l.toArray true).wp P Q a w :=
  wp_region_class (C := fun w' => ∃ s : Ext w, w' = s.at_) hm hB ⟨⟨w.drew, (Below.refl _ _).drew⟩, rfl⟩ h
end
end Go.Proofs.YtpbnigpdpkfpaaaGreatDoor
namespace Go.Proofs.YtpbnigpdpkfpaaaGreatDoor
open Go.RowKit
theorem isHexL_append (l m : List UInt8) : isHexL (l ++ m) = (isHexL l && isHexL m) := by unfold isHexL; rw [List.all_append]
theorem isHexL_no {l : List UInt8} {k : Nat} (h : k < l.length) (hx : hv (gb l k) = -1) : isHexL l = false := by
  rw [← Bool.not_eq_true]
  intro ha
  unfold isHexL at ha
  have e : gb l k = l[k] := by simp [gb, List.getD_eq_getElem?_getD, h]
  have := List.all_eq_true.1 ha _ (List.getElem_mem h)
  rw [← e, hx] at this
  simp at this
/-- A number of 64 bits, from digits. -/
def numU (l : List UInt8) : Nat := l.foldl (fun n c => (n * 16 + (hv c).toNat) % 18446744073709551616) 0
theorem numU_snoc (l : List UInt8) (c : UInt8) : numU (l ++ [c]) = (numU l * 16 + (hv c).toNat) % 18446744073709551616 := by simp [numU]
theorem numU_lt (l : List UInt8) : numU l < 18446744073709551616 := by
  rcases List.eq_nil_or_concat l with h | ⟨m, c, h⟩
  · subst h; decide
  · rw [h, List.concat_eq_append, numU_snoc]; omega
theorem gb_snoc (l : List UInt8) (k : Nat) (h : k < l.length) : l.take (k + 1) = l.take k ++ [gb l k] := by
  rw [List.take_succ_eq_append_getElem h]
  simp [gb, List.getD_eq_getElem?_getD, h]
theorem u64_wrap (z : Int) : IntKind.u64.wrap z = z % 18446744073709551616 := by simp [IntKind.wrap, IntKind.bits, IntKind.signed]
def numUR (l : List UInt8) : Nat := if isHexL l = true then numU l else 0
set_option maxRecDepth 100000 in
set_option maxHeartbeats 1600000 in
theorem numberU_any (W : World) (s : ByteArray) (l : List UInt8) (hl : l = s.data.toList) (hs : s.size ≤ 1048576) : Calls Tryz.prog 193 #[.string s] W fun e W' => e = .returned (.tuple #[.int .u64 (numUR l), .bool (isHexL l)]) ∧ W' = W := by
  have HL := Lib.hid hl
  have hll : l.length = s.size := by rw [hl, ← ba_size]
  have HZ := Lib.hid hll
  clear hl hll
  have l0 : (0 : Int) ≤ (s.size : Int) := by omega
  have l9 : (s.size : Int) ≤ 1048576 := by omega
  go_enter Tryz.func193, Tryz.ntmps193
  go_wp2
  go_loop [4, 5] (fun v i => ∃ k : Nat, k ≤ s.size ∧ i = .int .i64 k ∧ v = .int .u64 (numU (l.take k)) ∧ isHexL (l.take k) = true) (fun _ i => s.size - (intOf i).toNat)
  case atStart => exact ⟨0, by omega, rfl, rfl, rfl⟩
  case round =>
    obtain ⟨k, hk, rfl, rfl, ha⟩ := hrel
    obtain ⟨n, hn⟩ : ∃ n, n = numU (l.take k) := ⟨_, rfl⟩
    have hn64 := numU_lt (l.take k)
    rw [← hn] at hn64
    rw [← hn]
    have HN := Lib.hid hn
    have HA := Lib.hid ha
    clear hn ha
    by_cases hks : k < s.size
    · have k3 : (k : Int) < (s.size : Int) := by omega
      have hkl : k < l.length := by rw [HZ.out]; exact hks
      have hix := fun w => run_byte w s l HL.out k hks
      obtain ⟨x, hx⟩ : ∃ x, x = gb l k := ⟨_, rfl⟩
      rw [← hx] at hix
      have hsn := gb_snoc l k hkl
      rw [← hx] at hsn
      have hno : hv x = -1 → isHexL l = false := fun h => isHexL_no hkl (by rw [← hx]; exact h)
      have hyes : ∀ z : Nat, hv x = (z : Int) → numU (l.take (k + 1)) = (n * 16 + z) % 18446744073709551616 ∧ isHexL (l.take (k + 1)) = true := by
        intro z h
        rw [hsn, numU_snoc, ← HN.out, h]
        refine ⟨rfl, ?_⟩
        rw [isHexL_append, HA.out]
        unfold isHexL
        simp [h]
      have hc := hv_cases x
      have u0 := ub_nonneg x
      have u1 := ub_lt x
      have HNO := Lib.hid hno
      have HYES := Lib.hid hyes
      clear hno hyes hsn
      generalize hux : ub x = u at hc u0 u1 hix
      clear hx hux
      rcases hc with ⟨c1, c2, c3⟩ | ⟨c1, c2, c3⟩ | ⟨c1, c3⟩
      · obtain ⟨z, hz⟩ : ∃ z : Nat, u = (z : Int) + 48 := ⟨(u - 48).toNat, by omega⟩
        subst hz
        have C3 : Hid (hv x = (z : Int)) := by rw [c3]; exact Lib.hid (by omega)
        clear c3 hs hk u0 u1
        go_wp2
        go_round
        case measure => simp [intOf]; omega
        case rel => exact ⟨k + 1, by omega, by go_num, by rw [(HYES.out z C3.out).1]; simp only [u64_wrap]; congr 1; omega, (HYES.out z C3.out).2⟩
      · obtain ⟨z, hz⟩ : ∃ z : Nat, u = (z : Int) + 97 := ⟨(u - 97).toNat, by omega⟩
        subst hz
        have c4 : ¬ (z : Int) + 97 ≤ 57 := by omega
        have c5 : (48 : Int) ≤ (z : Int) + 97 := by omega
        have C3 : Hid (hv x = ((z + 10 : Nat) : Int)) := by rw [c3]; exact Lib.hid (by omega)
        clear c3 hs hk u0 u1
        go_wp2
        go_round
        case measure => simp [intOf]; omega
        case rel => exact ⟨k + 1, by omega, by go_num, by rw [(HYES.out (z + 10) C3.out).1]; simp only [u64_wrap]; congr 1; omega, (HYES.out (z + 10) C3.out).2⟩
      · have hneg := HNO.out c3
        clear c3 hs hk
        rcases c1 with c1 | ⟨c1, c2⟩ | c1
        · have d1 : ¬ (48 : Int) ≤ u := by omega
          have d2 : ¬ (97 : Int) ≤ u := by omega
          go_wp2
          go_ret2
          exact ⟨by unfold numUR; rw [hneg]; rfl, rfl⟩
        · have d1 : (48 : Int) ≤ u := by omega
          have d2 : ¬ (97 : Int) ≤ u := by omega
          have d3 : ¬ u ≤ 57 := by omega
          go_wp2
          go_ret2
          exact ⟨by unfold numUR; rw [hneg]; rfl, rfl⟩
        · have d1 : (48 : Int) ≤ u := by omega
          have d2 : (97 : Int) ≤ u := by omega
          have d3 : ¬ u ≤ 57 := by omega
          have d4 : ¬ u ≤ 102 := by omega
          go_wp2
          go_ret2
          exact ⟨by unfold numUR; rw [hneg]; rfl, rfl⟩
    · have hk2 : k = s.size := by omega
      have hall : l.take k = l := List.take_of_length_le (by rw [HZ.out]; omega)
      have hyes : numUR l = n ∧ isHexL l = true := by
        have h1 := HA.out
        have h2 := HN.out
        rw [hall] at h1 h2
        unfold numUR
        rw [if_pos h1]
        exact ⟨h2.symm, h1⟩
      have HY := Lib.hid hyes
      clear hall hyes
      subst hk2
      go_wp2
      go_ret2
      exact ⟨by rw [HY.out.1, HY.out.2]; rfl, rfl⟩
end Go.Proofs.YtpbnigpdpkfpaaaGreatDoor
namespace Go.Proofs.YtpbnigpdpkfpaaaGreatDoor
open Go.RowKit
/-- An array that is handed back, and a second result. -/
theorem res_row2 {P : Program} {fn : Func} {p q : Tmp} {ty : TypeId} (h : fn.results = #[.cell p ty, .tmp q]) (tmps : Array Value) (w : World) (g : Nat) (t : TypeId) (cs : List Value) (n : Nat) (e : TypeId)
    (hp : tmps.getD p undef = .pointer (some ⟨g, 0, none⟩)) (hg : Blk w g t cs) (hu : P.underlying ty = some (.array n e)) (hi : (P.info? ty).map (·.size) = some cs.length) :
    (results fn tmps).run P w = .ok (.tuple #[.agg cs.toArray, tmps.getD q undef]) w := by
  have hp' : tmps[p]?.getD undef = .pointer (some ⟨g, 0, none⟩) := by simpa using hp
  simp [results, h, hp', asAddr, run_loadVar_row w g t ty cs.toArray (0, 0) _ hg hu rfl (by simpa using hi)]
theorem zI_eq : (Obj.cells #[.int .u8 0, .int .u8 0, .int .u8 0, .int .u8 0, .int .u8 0, .int .u8 0, .int .u8 0, .int .u8 0, .int .u8 0, .int .u8 0, .int .u8 0, .int .u8 0, .int .u8 0, .int .u8 0, .int .u8 0, .int .u8 0, .int .u8 0, .int .u8 0, .int .u8 0, .int .u8 0, .int .u8 0, .int .u8 0, .int .u8 0, .int .u8 0, .int .u8 0, .int .u8 0, .int .u8 0, .int .u8 0, .int .u8 0, .int .u8 0, .int .u8 0, .int .u8 0] 24 : Obj) = .cells zero32.toArray 24 := rfl
/-- So many bytes of a name are in. -/
def hxSt (l : List UInt8) (k : Nat) : List UInt8 := unhex (l.take (2 * k)) ++ List.replicate (32 - k) 0
theorem hxSt_set (l : List UInt8) (k : Nat) (hl : l.length = 64) (hk : k < 32) : (hxSt l k).set k (UInt8.ofNat ((hv (gb l (2 * k))).toNat * 16 + (hv (gb l (2 * k + 1))).toNat)) = hxSt l (k + 1) := by
  have ul : (unhex (l.take (2 * k))).length = k := unhex_len k _ (by rw [List.length_take]; omega)
  unfold hxSt
  rw [show 32 - k = (32 - (k + 1)) + 1 by omega, List.replicate_succ, List.set_append_right _ _ (by omega), ul, Nat.sub_self, List.set_cons_zero]
  have e : l.take (2 * (k + 1)) = l.take (2 * k) ++ [gb l (2 * k), gb l (2 * k + 1)] := by
    rw [show 2 * (k + 1) = 2 * k + 1 + 1 by omega, gb_snoc l (2 * k + 1) (by omega), gb_snoc l (2 * k) (by omega), List.append_assoc]
    rfl
  rw [e, unhex_append k _ _ _ (by rw [List.length_take]; omega), List.append_assoc]
  rfl
theorem hxSt_len (l : List UInt8) (k : Nat) (hl : l.length = 64) (hk : k ≤ 32) : (hxSt l k).length = 32 := by
  unfold hxSt
  rw [List.length_append, unhex_len k _ (by rw [List.length_take]; omega), List.length_replicate]
  omega
theorem pair_at (s : ByteArray) (l : List UInt8) (hl : l = s.data.toList) (k : Nat) (h : 2 * k + 2 ≤ s.size) : (s.extract (2 * k) (2 * k + 2)).data.toList = [gb l (2 * k), gb l (2 * k + 1)] := by
  have hz : l.length = s.size := by rw [hl, ← ba_size]
  rw [ba_extract, ← hl, show 2 * k + 2 = 2 * k + 1 + 1 by omega, gb_snoc l (2 * k + 1) (by omega), gb_snoc l (2 * k) (by omega), List.append_assoc]
  exact List.drop_left' (by rw [List.length_take]; omega)
theorem idR_no {l : List UInt8} (h : isHexL l = false) : idR l = (List.replicate 32 0, false) := by
  unfold idR
  rw [if_neg (by rw [h]; simp)]
theorem idR_yes {l : List UInt8} (hl : l.length = 64) (h : isHexL l = true) : idR l = (hxSt l 32, true) := by
  unfold idR hxSt
  rw [if_pos ⟨hl, h⟩, List.take_of_length_le (by omega)]
  simp
/-- What GetHex keeps. -/
def GhIn (W : World) (l : List UInt8) (k : Nat) (wr : World) : Prop := Below W.heap.size W wr ∧ Blk wr W.heap.size 24 zero32 ∧ Blk wr (W.heap.size + 1) 24 (Bs (hxSt l k))
theorem ghIn_new (W : World) (l : List UInt8) : GhIn W l 0 ((W.alloc (.cells zero32.toArray 24)).alloc (.cells zero32.toArray 24)) := by
  have n := Blk.new (W.alloc (.cells zero32.toArray 24)) 24 zero32
  rw [hsz] at n
  exact ⟨((Below.refl _ _).alloc (Nat.le_refl _) _).alloc (by rw [hsz]; omega) _, (Blk.new W _ _).alloc _, n⟩
set_option maxRecDepth 100000 in
set_option maxHeartbeats 4000000 in
theorem getHex_any (W : World) (s : ByteArray) (l : List UInt8) (hl : l = s.data.toList) : Calls Tryz.prog 137 #[.string s] W fun e W' =>
    e = .returned (.tuple #[.agg (Bs (idR l).1).toArray, .bool (idR l).2]) ∧ Below W.heap.size W W' := by
  have HL := Lib.hid hl
  have hll : l.length = s.size := by rw [hl, ← ba_size]
  have HZ := Lib.hid hll
  have K0 := Lib.hid (ghIn_new W l)
  have zI := zI_eq
  clear hl hll
  by_cases h64 : s.size = 64
  · have e64 : (s.size : Int) = 64 := by omega
    go_enter Tryz.func137, Tryz.ntmps137
    go_wp2
    go_loopw [5] (fun i wr => ∃ k : Nat, k ≤ 32 ∧ i = .int .i64 k ∧ isHexL (l.take (2 * k)) = true ∧ GhIn W l k wr) (fun i _ => 32 - (intOf i).toNat)
    case atStart => exact ⟨0, by omega, rfl, rfl, K0.out⟩
    case round =>
      obtain ⟨k, hk, rfl, hx, hI⟩ := hrel
      clear K0
      have HX := Lib.hid hx
      have HI := Lib.hid hI
      clear hx hI
      by_cases hk32 : k < 32
      · have l1 : (k : Int) < 32 := by omega
        have hp := pair_at s l HL.out k (by omega)
        have cN := fun w => numberU_any w (s.extract (2 * k) (2 * k + 2)) _ hp.symm (by rw [ba_size, hp]; simp)
        have hex2 : isHexL (l.take (2 * (k + 1))) = isHexL [gb l (2 * k), gb l (2 * k + 1)] := by
          rw [show 2 * (k + 1) = 2 * k + 1 + 1 by omega, gb_snoc l (2 * k + 1) (by rw [HZ.out]; omega), gb_snoc l (2 * k) (by rw [HZ.out]; omega), List.append_assoc, isHexL_append, HX.out]
          rfl
        have hset := hxSt_set l k (by rw [HZ.out]; exact h64) hk32
        obtain ⟨m, hm⟩ : ∃ m, m = numUR [gb l (2 * k), gb l (2 * k + 1)] := ⟨_, rfl⟩
        cases hb : isHexL [gb l (2 * k), gb l (2 * k + 1)]
        · rw [hb] at hex2
          simp only [← hm, hb] at cN
          have hno : isHexL l = false := by
            have : l = l.take (2 * (k + 1)) ++ l.drop (2 * (k + 1)) := (List.take_append_drop _ _).symm
            rw [this, isHexL_append, hex2]
            rfl
          have HN := Lib.hid (idR_no hno)
          have hz2 := HI.out.2.1
          have HZ2 := Lib.hid hz2
          clear hno hex2 hset hm hb hp hz2
          go_wp2_with (first
            | (go_at_call 193; refine (cN _).mono ?_; rintro e w' ⟨rfl, hw⟩; replace hw := hw.symm; subst hw)
            | (refine wpl_build rfl 24 _ rfl zero32 (by kernel_rfl) ?_)
            | (refine wpl_store rfl 24 (.tmp 2) _ rfl W.heap.size zero32 rfl rfl 24 zero32 HZ2.out (by rw [Tryz.sizeId]; simp [zero32]) rfl (Bs_one _) ?_))
          refine bodyPost_ret (res_row2 rfl _ _ W.heap.size 24 zero32 32 5 rfl (HZ2.out.row _) Tryz.underlying24 (by rw [Tryz.sizeId]; simp [zero32])) rfl ?_
          exact ⟨by rw [HN.out]; rfl, below_setRow' HI.out.1 (Nat.le_refl _) _⟩
        · rw [hb] at hex2
          have hmv : m = (hv (gb l (2 * k))).toNat * 16 + (hv (gb l (2 * k + 1))).toNat := by
            rw [hm]
            unfold numUR
            rw [if_pos hb]
            have h0 := hv_lt (gb l (2 * k))
            have h1 := hv_lt (gb l (2 * k + 1))
            unfold numU
            simp only [List.foldl_cons, List.foldl_nil]
            omega
          simp only [← hm, hb] at cN
          rw [← hmv] at hset
          have hm256 : m < 256 := by
            have h0 := hv_lt (gb l (2 * k))
            have h1 := hv_lt (gb l (2 * k + 1))
            omega
          have hw : (m : Int) % 256 = ub (UInt8.ofNat m) := by
            unfold ub
            rw [UInt8.toNat_ofNat']
            omega
          have x1 := HI.out.2.2.frozen k
          have x2 := HI.out.2.2.cell k _ (Bs_at (hxSt l k) k (by rw [hxSt_len l k (by rw [HZ.out]; exact h64) hk]; omega))
          have HSET := Lib.hid hset
          have HEX := Lib.hid hex2
          clear hset hmv hm hb hp hex2 hm256
          go_wp2_with (first
            | (go_at_call 193; refine (cN _).mono ?_; rintro e w' ⟨rfl, hw⟩; replace hw := hw.symm; subst hw))
          go_roundw
          case measure => simp [intOf]; omega
          case rel =>
            have h9 := HI.out.2.2.setCell k (.int .u8 (ub (UInt8.ofNat m)))
            rw [Bs_set, HSET.out] at h9
            exact ⟨k + 1, by omega, by go_num, HEX.out, HI.out.1.setCell (by show W.heap.size ≤ W.heap.size + 1; omega) _, HI.out.2.1.far (by show W.heap.size ≠ W.heap.size + 1; omega) _, h9⟩
      · have hk' : k = 32 := by omega
        subst hk'
        have hall : l.take (2 * 32) = l := List.take_of_length_le (by rw [HZ.out]; omega)
        have hy := HX.out
        rw [hall] at hy
        have HY := Lib.hid (idR_yes (by rw [HZ.out]; exact h64) hy)
        have hlen := hxSt_len l 32 (by rw [HZ.out]; exact h64) (by omega)
        have HLEN := Lib.hid hlen
        clear hall hy hlen
        go_wp2_with (first
          | (refine wpl_load rfl 24 (.tmp 4) rfl (W.heap.size + 1) rfl 24 (Bs (hxSt l 32)) HI.out.2.2 32 5 Tryz.underlying24 (by rw [Tryz.sizeId]; simp [HLEN.out]) ?_)
          | (refine wpl_store rfl 24 (.tmp 2) _ rfl W.heap.size (Bs (hxSt l 32)) rfl rfl 24 zero32 HI.out.2.1 (by rw [Tryz.sizeId]; simp [HLEN.out]) (by simp [zero32, HLEN.out]) (Bs_one _) ?_))
        refine bodyPost_ret (res_row2 rfl _ _ W.heap.size 24 (Bs (hxSt l 32)) 32 5 rfl (HI.out.2.1.row _) Tryz.underlying24 (by rw [Tryz.sizeId]; simp [HLEN.out])) rfl ?_
        exact ⟨by rw [HY.out]; rfl, below_setRow' HI.out.1 (Nat.le_refl _) _⟩
  · have e64 : ((s.size : Int) != 64) = true := by
      rw [bne_iff_ne]
      omega
    have hno : idR l = (List.replicate 32 0, false) := by
      unfold idR
      rw [if_neg (by rw [HZ.out]; omega)]
    have HN := Lib.hid hno
    have hz2 := K0.out.2.1
    have HZ2 := Lib.hid hz2
    clear hno h64 hz2
    go_enter Tryz.func137, Tryz.ntmps137
    go_wp2_with (first
      | (refine wpl_build rfl 24 _ rfl zero32 (by kernel_rfl) ?_)
      | (refine wpl_store rfl 24 (.tmp 2) _ rfl W.heap.size zero32 rfl rfl 24 zero32 HZ2.out (by rw [Tryz.sizeId]; simp [zero32]) rfl (Bs_one _) ?_))
    refine bodyPost_ret (res_row2 rfl _ _ W.heap.size 24 zero32 32 5 rfl (HZ2.out.row _) Tryz.underlying24 (by rw [Tryz.sizeId]; simp [zero32])) rfl ?_
    exact ⟨by rw [HN.out]; rfl, below_setRow' K0.out.1 (Nat.le_refl _) _⟩
end Go.Proofs.YtpbnigpdpkfpaaaGreatDoor
namespace Go.Proofs.YtpbnigpdpkfpaaaGreatDoor
open Go.RowKit
theorem indexByte_first (x : UInt8) : ∀ (l : List UInt8) (p : Nat), (∀ j, j < p → gb l j ≠ x) → p < l.length → gb l p = x → Lib.indexByte l x = p := by
  intro l
  induction l with
  | nil => intro p _ h; simp at h
  | cons c l ih =>
    intro p h1 h2 h3
    rw [Lib.indexByte]
    cases p with
    | zero =>
      have : c = x := h3
      subst this
      simp
    | succ p =>
      have hc : c ≠ x := h1 0 (by omega)
      have hp := ih p (fun j hj => h1 (j + 1) (by omega)) (by simpa using h2) h3
      have e : (c == x) = false := by simpa using hc
      have e2 : ((p : Int) == -1) = false := by rw [beq_eq_false_iff_ne]; omega
      rw [e, hp, e2]
      simp
theorem indexByte_no (x : UInt8) : ∀ (l : List UInt8), (∀ j, j < l.length → gb l j ≠ x) → Lib.indexByte l x = -1 := by
  intro l
  induction l with
  | nil => intro _; rfl
  | cons c l ih =>
    intro h
    have hc : c ≠ x := h 0 (by simp)
    have hp := ih (fun j hj => h (j + 1) (by simpa using hj))
    have e : (c == x) = false := by simpa using hc
    rw [Lib.indexByte, e, hp]
    rfl
set_option maxRecDepth 20000 in
set_option maxHeartbeats 800000 in
/-- slices.Index among the sixteen digits. -/
theorem index_any (W : World) (g : Nat) (x : UInt8) (hb : ∀ j, j < 16 → W.cell? ⟨g, j, none⟩ = some (.int .u8 (ub (gb digitsL j)))) : Calls Tryz.prog 214 #[.slice (some ⟨g, 0, none⟩) 16 16, .int .u8 (ub x)] W fun e W' => e = .returned (.int .i64 (hv x)) ∧ W' = W := by
  have HB := Lib.hid hb
  clear hb
  go_enter Tryz.func214, Tryz.ntmps214
  go_wp2
  go_loop [8] (fun i => ∃ k : Nat, k ≤ 16 ∧ i = .int .i64 k ∧ ∀ j, j < k → gb digitsL j ≠ x) (fun i => 16 - (intOf i).toNat)
  case atStart => exact ⟨0, by omega, rfl, fun j hj => by omega⟩
  case round =>
    obtain ⟨k, hk, rfl, hne⟩ := hrel
    have HNE := Lib.hid hne
    clear hne
    by_cases hlt : k < 16
    · have l1 : (k : Int) < 16 := by omega
      have c1 := HB.out k hlt
      obtain ⟨y, hy⟩ : ∃ y, y = gb digitsL k := ⟨_, rfl⟩
      rw [← hy] at c1
      have HY := Lib.hid hy
      clear hy
      by_cases hxy : y = x
      · subst hxy
        have hv1 : hv y = (k : Int) := indexByte_first y digitsL k HNE.out hlt HY.out.symm
        go_wp2
        go_ret
        exact ⟨rfl, rfl⟩
      · have e1 : (ub x == ub y) = false := by
          rw [beq_eq_false_iff_ne]
          intro e
          exact hxy (ub_inj e).symm
        have HXY := Lib.hid hxy
        clear hxy
        go_wp2
        go_round
        case measure => simp [intOf]; omega
        case rel =>
          refine ⟨k + 1, by omega, by go_num, fun j hj => ?_⟩
          rcases Nat.lt_or_ge j k with h | h
          · exact HNE.out j h
          · obtain rfl : j = k := by omega
            rw [← HY.out]; exact HXY.out
    · have hk2 : k = 16 := by omega
      subst hk2
      have hv1 : hv x = -1 := indexByte_no x digitsL HNE.out
      go_wp2
      go_ret
      exact ⟨rfl, rfl⟩
theorem or_dig (x : UInt8) (d : Nat) (h : d < 16) : bits .or .u8 (ub x * 16 % 256) (d : Int) = ub (UInt8.ofNat (x.toNat * 16 + d)) := by
  have hh : ∀ (a : Fin 256) (b : Fin 16), bits .or .u8 (((a.val : Nat) : Int) * 16 % 256) ((b.val : Nat) : Int) = (((UInt8.ofNat (a.val * 16 + b.val)).toNat : Nat) : Int) := by decide +kernel
  exact hh ⟨x.toNat, x.toNat_lt⟩ ⟨d, h⟩
theorem zD_eq : (Obj.cells #[.int .u8 48, .int .u8 49, .int .u8 50, .int .u8 51, .int .u8 52, .int .u8 53, .int .u8 54, .int .u8 55, .int .u8 56, .int .u8 57, .int .u8 97, .int .u8 98, .int .u8 99, .int .u8 100, .int .u8 101, .int .u8 102] 5 : Obj) = .cells (Bs digitsL).toArray 5 := by kernel_rfl
theorem idSt_zero (l : List UInt8) : Bs (idSt l 0) = zero32 := rfl
theorem idSt_succ (l : List UInt8) (k : Nat) : idSt l (k + 1) = (idSt l k).set (k / 2) (UInt8.ofNat (((idSt l k).getD (k / 2) 0).toNat * 16 + (hv (gb l k)).toNat)) := rfl
attribute [local irreducible] idSt
/-- What Get keeps. -/
def GtIn (W : World) (l : List UInt8) (p k : Nat) (wr : World) : Prop := Below W.heap.size W wr ∧ Blk wr W.heap.size 24 zero32 ∧ Blk wr (W.heap.size + 1) 24 (Bs (idSt l k)) ∧ Src wr 1 (some ⟨p, 0, none⟩) 64 (Bs l) ∧ W.heap.size + 2 ≤ p ∧ p < wr.heap.size
theorem isHexL_take {l : List UInt8} {k : Nat} (h : k < l.length) : isHexL (l.take (k + 1)) = (isHexL (l.take k) && decide (0 ≤ hv (gb l k))) := by
  rw [gb_snoc l k h, isHexL_append]
  congr 1
  unfold isHexL
  simp
set_option maxRecDepth 100000 in
set_option maxHeartbeats 4000000 in
theorem idGet_any (W : World) (s : ByteArray) (l : List UInt8) (hl : l = s.data.toList) : Calls Tryz.prog 166 #[.string s] W fun e W' =>
    e = .returned (.tuple #[.agg (Bs (idR l).1).toArray, .bool (idR l).2]) ∧ Below W.heap.size W W' := by
  have HL := Lib.hid hl
  have hll : l.length = s.size := by rw [hl, ← ba_size]
  have HZ := Lib.hid hll
  have zI := zI_eq
  have zD := zD_eq
  have n1 := Blk.new (W.alloc (.cells zero32.toArray 24)) 24 zero32
  rw [hsz] at n1
  have n0 := (Blk.new W 24 zero32).alloc (.cells zero32.toArray 24)
  have l0 : Below W.heap.size W ((W.alloc (.cells zero32.toArray 24)).alloc (.cells zero32.toArray 24)) := ((Below.refl _ _).alloc (Nat.le_refl _) _).alloc (by rw [hsz]; omega) _
  clear hl hll
  by_cases h64 : s.size = 64
  · obtain ⟨c, w1, hcv, hsrc, hbw, hsz1, hc⟩ := conv_bytes ((W.alloc (.cells zero32.toArray 24)).alloc (.cells zero32.toArray 24)) s
    rw [← HL.out, h64] at hsrc
    rw [h64] at hcv hc
    have hp : ((W.alloc (.cells zero32.toArray 24)).alloc (.cells zero32.toArray 24)).heap.size = W.heap.size + 2 := by rw [hsz, hsz]
    have G0 : Hid (GtIn W l (W.heap.size + 2) 0 w1) := Lib.hid ⟨l0.trans (hbw.mono (by omega)), n0.below hbw, by rw [idSt_zero]; exact n1.below hbw, by rw [← hp]; exact hsrc, Nat.le_refl _, by omega⟩
    have C1 := Lib.hid hcv
    have e64 : (s.size : Int) = 64 := by omega
    have c64 : (64 : Int) ≤ (c : Int) := by omega
    rw [hp] at C1
    clear hsrc hbw hsz1 hcv n0 n1 l0 hp hc
    go_enter Tryz.func166, Tryz.ntmps166
    go_wp2_with (refine wpl_convw rfl 9 53 _ rfl _ rfl _ w1 C1.out ?_)
    go_loopw [15] (fun i wr => ∃ k : Nat, k ≤ 64 ∧ i = .int .i64 k ∧ isHexL (l.take k) = true ∧ GtIn W l (W.heap.size + 2) k wr) (fun i _ => 64 - (intOf i).toNat)
    case atStart => exact ⟨0, by omega, rfl, rfl, G0.out⟩
    case round =>
      obtain ⟨k, hk, rfl, hx, hI⟩ := hrel
      clear G0
      have HX := Lib.hid hx
      have HI := Lib.hid hI
      clear hx hI
      by_cases hlt : k < 64
      · have l1 : (k : Int) < 64 := by omega
        have hkl : k < l.length := by rw [HZ.out]; omega
        obtain ⟨x, hx⟩ : ∃ x, x = gb l k := ⟨_, rfl⟩
        have hcell : wr.cell? ⟨W.heap.size + 2, k, none⟩ = some (.int .u8 (ub x)) := by
          obtain ⟨ad, e, hc⟩ := HI.out.2.2.2.1.2.1 (by omega)
          obtain rfl := Option.some.inj e
          have := hc k _ (Bs_at l k hkl)
          have ha : (⟨W.heap.size + 2, 0, none⟩ : Addr).add k = ⟨W.heap.size + 2, k, none⟩ := by unfold Addr.add; split <;> simp_all
          rw [ha] at this
          rw [this, hx]
        have hex := isHexL_take hkl
        rw [HX.out, Bool.true_and, ← hx] at hex
        have hno : hv x < 0 → isHexL l = false := fun h => by
          have h1 := hv_lt x
          exact isHexL_no hkl (by rw [← hx]; omega)
        have hst : idSt l (k + 1) = (idSt l k).set (k / 2) (UInt8.ofNat (((idSt l k).getD (k / 2) 0).toNat * 16 + (hv x).toNat)) := by rw [hx]; exact idSt_succ l k
        have hlen := idSt_len l k
        have HST := Lib.hid hst
        have HEX := Lib.hid hex
        have HNO := Lib.hid hno
        have hd := hv_lt x
        obtain ⟨d, hdd⟩ : ∃ d, d = hv x := ⟨_, rfl⟩
        rw [← hdd] at hd
        have HDD := Lib.hid hdd
        obtain ⟨O, hO⟩ : ∃ O : Obj, O = .cells (Bs digitsL).toArray 5 ((Bs digitsL).toArray.size, (Bs digitsL).toArray.size + 1) := ⟨_, rfl⟩
        have hcc : (convert 53 53 (.slice (some ⟨wr.heap.size, 0, none⟩) 16 16)).run Tryz.prog (wr.alloc (.cells (Bs digitsL).toArray 5)) = .ok (.slice (some ⟨wr.heap.size, 0, none⟩) 16 16) (wr.alloc O) := by
          rw [hO]
          exact Lib.run_convert_bytes_const (P := Tryz.prog) wr 53 5 (Bs digitsL).toArray 16 16 Tryz.underlying53 (by kernel_rfl)
        have cI := index_any (wr.alloc O) wr.heap.size x (fun j hj => by
          rw [hO, World.cell?_alloc_mark]
          have := Bs_at digitsL j hj
          simpa using this)
        rw [← hdd] at cI
        clear hO
        clear hst hex hno hdd hx
        by_cases hneg : d < 0
        · have HN := Lib.hid (idR_no (HNO.out (by rw [← HDD.out]; exact hneg)))
          have HZ2 : Hid (Blk (wr.alloc O) W.heap.size 24 zero32) := Lib.hid (HI.out.2.1.alloc _)
          have LL : Hid (Below W.heap.size W (wr.alloc O)) := Lib.hid (HI.out.1.alloc HI.out.1.size _)
          go_wp2_with (first
            | (go_at_call 214; refine cI.mono ?_; rintro e w' ⟨rfl, hw⟩; replace hw := hw.symm; subst hw)
            | (refine wpl_build rfl 24 _ rfl zero32 (by kernel_rfl) ?_)
            | (refine wpl_store rfl 24 (.tmp 2) _ rfl W.heap.size zero32 rfl rfl 24 zero32 HZ2.out (by rw [Tryz.sizeId]; simp [zero32]) rfl (Bs_one _) ?_))
          refine bodyPost_ret (res_row2 rfl _ _ W.heap.size 24 zero32 32 5 rfl (HZ2.out.row _) Tryz.underlying24 (by rw [Tryz.sizeId]; simp [zero32])) rfl ?_
          exact ⟨by rw [HN.out]; rfl, below_setRow' LL.out (Nat.le_refl _) _⟩
        · obtain ⟨z, rfl⟩ : ∃ z : Nat, d = (z : Int) := ⟨d.toNat, by omega⟩
          have z16 : (z : Int) < 16 := hd.1
          obtain ⟨i, hi⟩ : ∃ i, i = k / 2 := ⟨_, rfl⟩
          have q1 : ((k : Int).tdiv 2) = (i : Int) := by rw [Int.tdiv_eq_ediv_of_nonneg (by omega)]; omega
          have q2 : ((k : Int) / 2) = (i : Int) := by omega
          have i32 : (i : Int) < 32 := by omega
          have hil : i < (idSt l k).length := by rw [hlen]; omega
          have x3 : (wr.alloc O).cell? ⟨W.heap.size + 1, i, none⟩ = some (.int .u8 (ub (gb (idSt l k) i))) := (HI.out.2.2.1.alloc _).cell i _ (Bs_at _ i hil)
          have x4 : (wr.alloc O).frozen? ⟨W.heap.size + 1, i, none⟩ = false := (HI.out.2.2.1.alloc _).frozen i
          have hset := HST.out
          have hz : (hv x).toNat = z := by rw [← HDD.out]; rfl
          rw [hz, ← hi] at hset
          have hy : (idSt l k).getD i 0 = gb (idSt l k) i := rfl
          rw [hy] at hset
          obtain ⟨y, hyy⟩ : ∃ y, y = gb (idSt l k) i := ⟨_, rfl⟩
          rw [← hyy] at x3 hset
          have ho := or_dig y z (by omega)
          have hn : UInt8.ofNat (y.toNat * 16 + z) = y * 16 + UInt8.ofNat z := by simp
          rw [hn] at hset ho
          have HSET := Lib.hid hset
          have HE2 : Hid (isHexL (l.take (k + 1)) = true) := by
            rw [HEX.out, ← HDD.out]
            exact Lib.hid (by simp)
          have HI2 : Hid (GtIn W l (W.heap.size + 2) k (wr.alloc O)) := by
            obtain ⟨h1, h2, h3, h4, h5, h6⟩ := HI.out
            exact Lib.hid ⟨h1.alloc h1.size _, h2.alloc _, h3.alloc _, src_below h4 ((Below.refl _ _).alloc (Nat.le_refl _) _), h5, by rw [hsz]; omega⟩
          clear hset hyy hi hil HST HEX HNO HI hlen hneg hd
          go_wp2_with (first
            | (go_at_call 214; refine cI.mono ?_; rintro e w' ⟨rfl, hw⟩; replace hw := hw.symm; subst hw))
          go_roundw
          case measure => simp [intOf]; omega
          case rel =>
            obtain ⟨h1, h2, h3, h4, h5, h6⟩ := HI2.out
            have h9 := h3.setCell i (.int .u8 (ub (y * 16 + UInt8.ofNat z)))
            rw [Bs_set, ← HSET.out] at h9
            refine ⟨k + 1, by omega, by go_num, HE2.out, h1.setCell (by show W.heap.size ≤ W.heap.size + 1; omega) _, h2.far (by show W.heap.size ≠ W.heap.size + 1; omega) _, h9, h4.far (fun ad e _ => by obtain rfl := Option.some.inj e; exact heap_setCell_other _ _ _ _ (by show W.heap.size + 2 ≠ W.heap.size + 1; omega)), h5, by simpa [World.setCell] using h6⟩
      · have hk' : k = 64 := by omega
        subst hk'
        have hall : l.take 64 = l := List.take_of_length_le (by rw [HZ.out]; omega)
        have hy := HX.out
        rw [hall] at hy
        have hr : idR l = (idSt l 64, true) := by
          have h1 := idSt_all l (by rw [HZ.out]; exact h64) hy
          have h2 : (idR l).2 = true := by unfold idR; rw [if_pos ⟨by rw [HZ.out]; exact h64, hy⟩]
          exact Prod.ext h1.symm h2
        have HY := Lib.hid hr
        have HLEN := Lib.hid (idSt_len l 64)
        clear hall hy hr
        go_wp2_with (first
          | (refine wpl_load rfl 24 (.tmp 4) rfl (W.heap.size + 1) rfl 24 (Bs (idSt l 64)) HI.out.2.2.1 32 5 Tryz.underlying24 (by rw [Tryz.sizeId]; simp [HLEN.out]) ?_)
          | (refine wpl_store rfl 24 (.tmp 2) _ rfl W.heap.size (Bs (idSt l 64)) rfl rfl 24 zero32 HI.out.2.1 (by rw [Tryz.sizeId]; simp [HLEN.out]) (by simp [zero32, HLEN.out]) (Bs_one _) ?_))
        refine bodyPost_ret (res_row2 rfl _ _ W.heap.size 24 (Bs (idSt l 64)) 32 5 rfl (HI.out.2.1.row _) Tryz.underlying24 (by rw [Tryz.sizeId]; simp [HLEN.out])) rfl ?_
        exact ⟨by rw [HY.out]; rfl, below_setRow' HI.out.1 (Nat.le_refl _) _⟩
  · have e64 : ((s.size : Int) != 64) = true := by
      rw [bne_iff_ne]
      omega
    have hno : idR l = (List.replicate 32 0, false) := by
      unfold idR
      rw [if_neg (by rw [HZ.out]; omega)]
    have HN := Lib.hid hno
    have HZ2 := Lib.hid n0
    have LL := Lib.hid l0
    clear hno h64 n0 n1 l0
    go_enter Tryz.func166, Tryz.ntmps166
    go_wp2_with (first
      | (refine wpl_build rfl 24 _ rfl zero32 (by kernel_rfl) ?_)
      | (refine wpl_store rfl 24 (.tmp 2) _ rfl W.heap.size zero32 rfl rfl 24 zero32 HZ2.out (by rw [Tryz.sizeId]; simp [zero32]) rfl (Bs_one _) ?_))
    refine bodyPost_ret (res_row2 rfl _ _ W.heap.size 24 zero32 32 5 rfl (HZ2.out.row _) Tryz.underlying24 (by rw [Tryz.sizeId]; simp [zero32])) rfl ?_
    exact ⟨by rw [HN.out]; rfl, below_setRow' LL.out (Nat.le_refl _) _⟩
end Go.Proofs.YtpbnigpdpkfpaaaGreatDoor
namespace Go.Proofs.YtpbnigpdpkfpaaaGreatDoor
section
variable {P : Program} {ops : Array Oper} {md : Region.Mode} {C : World → Prop}
/-- Each behind n waits for one of those from n on. -/
def laterB (md : Region.Mode) (ops : Array Oper) (n : Nat) : Bool :=
  (List.range ops.size).all fun t => decide (t ≤ n) || (List.range t).any fun j => decide (n ≤ j) && Region.waitsFor md ops t j
/-- Those that came up, after n more in the text's order. -/
def cameL : Nat → Nat → Array Bool → Array Bool
  | 0, _, l => l
  | n + 1, k, l => cameL n (k + 1) (l.setIfInBounds k true)
def stepsB (md : Region.Mode) (ops : Array Oper) : Nat → Nat → Array Bool → Bool
  | 0, _, _ => true
  | n + 1, k, listed => (Region.ready md ops listed).contains k && Region.free md ops listed k && stepsB md ops n (k + 1) (listed.setIfInBounds k true)
def stageOk (md : Region.Mode) (ops : Array Oper) (k n : Nat) (listed : Array Bool) : Bool :=
  Region.noSelect ops && decide (k ≤ n) && decide (n < ops.size) && sinkL md ops n listed && laterB md ops n && stepsB md ops (n - k) k listed && decide (listed.size = ops.size)
    && ((List.range ops.size).all fun j => !listed.getD j false || match ops[j]? with
        | some oj => oj.after.all fun e => !Region.binds md e || listed.getD e.on false
        | none => false)
    && ((List.range ops.size).all fun t => decide (t < n) || !listed.getD t true)
    && ((Region.ready md ops (cameL (n - k) k listed)).all fun j => decide (n ≤ j))
/-- An operation that looks at no memory. -/
def bareOp : Op → Bool
  | .move _ | .assign _ | .binOp .. | .convert .. | .index .. | .slice .. | .indexAddr .. | .fieldAddr .. => true
  | _ => false
theorem bare_value {ev : Operand → Value} {o : Oper} (h : bareOp o.op = true) {w w' : World} {n : Next} (hr : (execOp ev o).run P w = .ok n w') : ∃ v, n = .value v := by
  unfold execOp at hr
  have key : ∀ s : Sem Value, Sem.run P (do pure (Next.value (← s))) w = .ok n w' → ∃ v, n = .value v := by
    intro s hs
    rw [Sem.run_bind] at hs
    cases hx : Sem.run P s w with
    | ok v w1 =>
      rw [hx] at hs
      simp only [Result.andThen_ok, Sem.run_pure] at hs
      injection hs with h1 _
      exact ⟨v, h1.symm⟩
    | halt h1 w1 => rw [hx] at hs; cases hs
  cases ho : o.op <;> rw [ho] at h <;> simp only [ho] at hr <;> first
    | (simp [bareOp] at h; done)
    | exact key _ hr
    | (simp only [Sem.run_pure] at hr; injection hr with h1 _; exact ⟨_, h1.symm⟩)
def bareB (md : Region.Mode) (ops : Array Oper) : List Nat → Array Bool → Bool
  | [], _ => true
  | k :: ks, listed => Region.free md ops listed k && (Region.ready md ops listed).contains k && (match ops[k]? with | some o => bareOp o.op | none => false) && bareB md ops ks (listed.setIfInBounds k true)
def bareL : List Nat → Array Bool → Array Bool
  | [], l => l
  | k :: ks, l => bareL ks (l.setIfInBounds k true)
def bareO (ops : Array Oper) (ks : List Nat) : List Oper := ks.filterMap fun k => ops[k]?
theorem wpAny_bare' {Q : Exit → Act → World → Prop} {w : World} {g : Nat} (hs : Region.noSelect ops = true) (hQ : ∀ c a w d v, Q (.panic c) (Act.put a d v) w → Q (.panic c) a w) (ks : List Nat) :
    ∀ (listed : Array Bool) (a : Act), bareB md ops ks listed = true →
      wpQuiet P ops (fun _ => True) (fun a' => wpAny P md ops Q g (bareL ks listed) a' w) (bareO ops ks) a → wpAny P md ops Q (g + ks.length) listed a w := by
  induction ks with
  | nil => intro listed a _ h; exact h
  | cons k ks ih =>
    intro listed a hB h
    simp only [bareB, Bool.and_eq_true] at hB
    obtain ⟨⟨⟨hf, hr⟩, hp⟩, hB'⟩ := hB
    cases h0 : ops[k]? with
    | none => rw [h0] at hp; cases hp
    | some o =>
      rw [h0] at hp
      have e1 : bareO ops (k :: ks) = o :: bareO ops ks := by unfold bareO; rw [List.filterMap_cons, h0]
      rw [e1] at h
      have hq : qOp P ops (fun _ => True) k (wpQuiet P ops (fun _ => True) (fun a' => wpAny P md ops Q g (bareL ks (listed.setIfInBounds k true)) a' w) (bareO ops ks)) a := by
        unfold qOp; simp only [h0]; exact h
      obtain ⟨v, hy, hK⟩ := yieldsIn_of_qOp h0 hq
      have hY : Yields P ops o v a := by
        rcases hy with ⟨h1, h2⟩ | h1
        · refine Or.inl ⟨h1, fun w1 => ?_⟩
          have h3 := h2 w1 trivial
          unfold Oper.quietAt at h3
          cases hx : (execOp a.eval o).run P w1 with
          | ok n w2 =>
            obtain ⟨v', rfl⟩ := bare_value hp hx
            rw [hx] at h3
            obtain ⟨rfl, rfl⟩ := h3
            rfl
          | halt x1 x2 => rw [hx] at h3; exact False.elim h3
        · exact Or.inr h1
      have e : g + (k :: ks).length = g + ks.length + 1 := by rw [List.length_cons]; omega
      rw [e]
      exact wpAny_take h0 hs hf hr (fun c a w => hQ c a w _ _) hY (ih _ _ hB' hK)
theorem wpAny_bare {Q : Exit → Act → World → Prop} {w : World} {l : List Oper} {listed : Array Bool} {a : Act} {m : Nat} (ks : List Nat) (g : Nat) (hm : m = g + ks.length) (hs : (Region.noSelect l.toArray && bareB md l.toArray ks listed) = true)
    (hQ : ∀ c a w d v, Q (.panic c) (Act.put a d v) w → Q (.panic c) a w)
    (h : wpQuiet P l.toArray (fun _ => True) (fun a' => wpAny P md l.toArray Q g (bareL ks listed) a' w) (bareO l.toArray ks) a) : wpAny P md l.toArray Q m listed a w := by
  simp only [Bool.and_eq_true] at hs
  rw [hm]
  exact wpAny_bare' hs.1 hQ ks listed a hs.2 h
end
end Go.Proofs.YtpbnigpdpkfpaaaGreatDoor
