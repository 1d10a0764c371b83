/- A region that draws its order: its first operations only read (calls that only draw among them), the others come one by one behind all of those; some of the first may have come up already. One whose callees lay new memory only. -/
import Derived.Deep.QuietTactic
import Derived.BigQuiet
import Derived.StillTail
import Derived.Test.YtmnndehoopmmaaaGreatDoorCm
namespace Go.Proofs.YtmnndehoopmmaaaGreatDoor
section
variable {P : Program} {ops : Array Oper} {md : Region.Mode} {C : World → Prop}
/-- Whatever order the first operations are picked in. -/
def headQ (P : Program) (md : Region.Mode) (ops : Array Oper) (C : World → Prop) (n : Nat) (L : Array Bool → Act → Prop) : Nat → Array Bool → Act → Prop
  | 0, listed, a => L listed a
  | f + 1, listed, a => Region.ready md ops listed ≠ [] ∧ ∀ i ∈ Region.ready md ops listed, i < n ∧ qOp P ops C i (headQ P md ops C n L f (listed.setIfInBounds i true)) a
theorem headQ_any {n g : Nat} {L : Array Bool → Act → Prop} {Q : Exit → Act → World → Prop} (hL : ∀ listed a w, C w → L listed a → wpAny P md ops Q g listed a w) (f : Nat) :
    ∀ (listed : Array Bool) (a : Act) (w : World), C w → headQ P md ops C n L f listed a → wpAny P md ops Q (f + g) listed a w := by
  induction f with
  | zero => intro listed a w hw h; rw [Nat.zero_add]; exact hL _ _ _ hw h
  | succ f ih =>
    intro listed a w hw h
    have e : f + 1 + g = f + g + 1 := by omega
    rw [e]
    exact ⟨fun h0 => absurd h0 h.1, fun i hi => wpOp_of_qOp hw (fun a' w' hw' h' => ih _ a' w' hw' h') (h.2 i hi).2⟩
/-- Each of the first n that has not come up yet is waited for. -/
def sinkL (md : Region.Mode) (ops : Array Oper) (n : Nat) (l0 : Array Bool) : Bool :=
  (List.range n).all fun i => l0.getD i false || (List.range (n + 1)).any fun j => decide (i < j) && Region.waitsFor md ops j i
/-- What is known of those that came up. -/
structure Came (md : Region.Mode) (ops : Array Oper) (n : Nat) (l0 listed : Array Bool) : Prop where
  inv : HeadInv md ops n listed
  sub : ∀ j, l0.getD j false = true → listed.getD j false = true
theorem Came.set {n i : Nat} {l0 listed : Array Bool} (h : Came md ops n l0 listed) (hi : i ∈ Region.ready md ops listed) (hin : i < n) : Came md ops n l0 (listed.setIfInBounds i true) :=
  ⟨h.inv.set hi hin, fun j hj => getD_set_true (h.sub j hj)⟩
theorem first_waits {n : Nat} {l0 listed : Array Bool} (hs : sinkL md ops n l0 = true) (h : Came md ops n l0 listed) (d : Nat) :
    ∀ i, n - i = d → i < n → listed.getD i false = false → n ∉ Region.ready md ops listed := by
  induction d using Nat.strongRecOn with
  | _ d ih =>
    intro i hd hi hun hr
    have h1 := List.all_eq_true.1 hs i (List.mem_range.2 hi)
    rw [Bool.or_eq_true] at h1
    rcases h1 with h1 | h1
    · rw [h.sub i h1] at hun; cases hun
    · obtain ⟨j, hj, hw⟩ := List.any_eq_true.1 h1
      rw [Bool.and_eq_true, decide_eq_true_eq] at hw
      obtain ⟨oj, hoj, e, he, hb, hon⟩ := Region.waitsFor_spec hw.2
      have hjn := List.mem_range.1 hj
      by_cases hjt : j = n
      · subst hjt
        obtain ⟨_, ot, hot, hall⟩ := mem_ready.1 hr
        obtain rfl : oj = ot := Option.some.inj (hoj.symm.trans hot)
        have := hall e he hb
        rw [hon, hun] at this
        cases this
      · cases hl : listed.getD j false with
        | true =>
          have := h.inv.closed j oj hoj hl e he hb
          rw [hon, hun] at this
          cases this
        | false => exact ih (n - j) (by omega) j rfl (by omega) hl hr
theorem rest_waits {n i : Nat} {l0 listed : Array Bool} (hs : sinkL md ops n l0 = true) (hc : Region.chainB md ops n = true) (h : Came md ops n l0 listed) (hi : i < n) (hun : listed.getD i false = false) :
    ∀ t, n ≤ t → t ∉ Region.ready md ops listed := by
  intro t ht hr
  rcases Nat.lt_or_ge n t with h1 | h1
  · obtain ⟨_, ot, hot, hall⟩ := mem_ready.1 hr
    have htl := (Array.getElem?_eq_some_iff.1 hot).1
    have h2 := List.all_eq_true.1 hc t (List.mem_range.2 htl)
    rw [Bool.or_eq_true, decide_eq_true_eq] at h2
    rcases h2 with h2 | h2
    · omega
    · obtain ⟨o', ho', e, he, hb, hon⟩ := Region.waitsFor_spec h2
      obtain rfl : o' = ot := Option.some.inj (ho'.symm.trans hot)
      have h3 := hall e he hb
      rw [hon, getD_both (h.inv.tail (t - 1) (by omega) (by omega))] at h3
      cases h3
  · obtain rfl : t = n := by omega
    exact first_waits hs h (t - i) i rfl hi hun hr
/-- One that may come up, and is apart from what may come up beside it, may be taken first. -/
theorem headQ_first {n i : Nat} {oi : Oper} {v : Value} {L : Array Bool → Act → Prop} {l0 : Array Bool} (hi : ops[i]? = some oi) (hsel : Region.noSelect ops = true) (hs : sinkL md ops n l0 = true) (hc : Region.chainB md ops n = true) (hin : i < n)
    (hdone : ∀ listed a, L listed a → ∀ j ∈ Region.ready md ops listed, n ≤ j) (f : Nat) :
    ∀ (listed : Array Bool) (a : Act), Came md ops n l0 listed →
      (∀ j oj, ops[j]? = some oj → j ≠ i → listed.getD j true = false → (∀ e ∈ oj.after, Region.binds md e = true → e.on ≠ i) → oi.apart ops oj = true) →
      i ∈ Region.ready md ops listed → YieldsIn P ops C oi v a → headQ P md ops C n L f (listed.setIfInBounds i true) (a.put oi.dst v) → headQ P md ops C n L (f + 1) listed a := by
  have ns := Region.noSelect_spec hsel
  induction f with
  | zero =>
    intro listed a inv _ hr hy H
    have hun := getD_both (mem_ready.1 hr).1
    refine ⟨fun e => (by rw [e] at hr; cases hr), fun j hj => ?_⟩
    have hjn : j < n := Nat.lt_of_not_ge fun hge => rest_waits hs hc inv hin hun j hge hj
    by_cases hji : j = i
    · subst hji; exact ⟨hjn, hy.qOp hi H⟩
    · have := hdone _ _ H j (ready_mono hj hji)
      omega
  | succ f ih =>
    intro listed a inv hfree hr hy H
    have hun := getD_both (mem_ready.1 hr).1
    refine ⟨fun e => (by rw [e] at hr; cases hr), fun j hj => ?_⟩
    have hjn : j < n := Nat.lt_of_not_ge fun hge => rest_waits hs hc inv hin hun j hge hj
    refine ⟨hjn, ?_⟩
    by_cases hji : j = i
    · subst hji; exact hy.qOp hi H
    · obtain ⟨hjun, oj, hoj, hall⟩ := mem_ready.1 hj
      have hnot : ∀ e ∈ oj.after, Region.binds md e = true → e.on ≠ i := fun e he hb heq => by
        have := hall e he hb
        rw [heq, hun] at this
        cases this
      have h2 := qOp_put hoj (hfree j oj hoj hji hjun hnot) (fun cs b => ns i oi cs b hi) (fun cs b => ns j oj cs b hoj) hy (H.2 j (ready_mono hj hji)).2
      refine qOp_mono (fun a' h3 => ih _ a' (inv.set hj hjn) (fun k ok hk hki hkun hno => hfree k ok hk hki ?_ hno) (ready_mono hr (Ne.symm hji)) h3.1 ?_) h2
      · by_cases hjk : j = k
        · subst hjk; exact hjun
        · rwa [getD_set_ne true hjk] at hkun
      · rw [Array.setIfInBounds_comm _ _ hji]
        exact h3.2
/-- The walk in the text's order serves each order of the first operations. -/
theorem headQ_lex {n g : Nat} {Lq : Act → Prop} {l0 : Array Bool} (hsel : Region.noSelect ops = true) (hs : sinkL md ops n l0 = true) (hc : Region.chainB md ops n = true) (l : List Oper) :
    ∀ (k : Nat) (listed : Array Bool) (a : Act), (∀ j, j < l.length → l[j]? = ops[k + j]?) → k + l.length = n → Came md ops n l0 listed → Region.lexHead md ops g l.length k listed = true → wpQuiet P ops C Lq l a →
      headQ P md ops C n (fun listed' a' => Region.seqB md ops g n listed' = true ∧ Lq a') l.length listed a := by
  induction l with
  | nil =>
    intro k listed a _ hk _ hB h
    obtain rfl : k = n := by simpa using hk
    exact ⟨by simpa [Region.lexHead] using hB, h⟩
  | cons o l ih =>
    intro k listed a hl hk inv hB h
    have h0 : ops[k]? = some o := by simpa using (hl 0 (by simp)).symm
    simp only [List.length_cons, Region.lexHead, Bool.and_eq_true] at hB
    have hkn : k < n := by simp only [List.length_cons] at hk; omega
    have hr : k ∈ Region.ready md ops listed := by simpa using hB.1.1
    have hq : qOp P ops C k (wpQuiet P ops C Lq l) a := by unfold qOp; simp only [h0]; exact h
    obtain ⟨v, hy, hK⟩ := yieldsIn_of_qOp h0 hq
    refine headQ_first h0 hsel hs hc hkn (fun listed' a' hL => seqB_ready hL.1) l.length listed a inv (Region.free_spec h0 hB.1.2) hr hy ?_
    refine ih (k + 1) _ _ (fun j hj => ?_) (by simp only [List.length_cons] at hk; omega) (inv.set hr hkn) hB.2 hK
    have := hl (j + 1) (by simp; omega)
    simpa [Nat.add_assoc, Nat.add_comm 1 j] using this
/-- What is checked of the region, of those that came up. -/
def tailOk (md : Region.Mode) (ops : Array Oper) (k n : Nat) (listed : Array Bool) : Bool :=
  Region.noSelect ops && decide (k ≤ n) && decide (n < ops.size) && sinkL md ops n listed && Region.chainB md ops n && Region.lexHead md ops (ops.size - n) (n - k) k listed && decide (listed.size = ops.size)
    && ((List.range ops.size).all fun j => !listed.getD j false || match ops[j]? with
        | some oj => oj.after.all fun e => !Region.binds md e || listed.getD e.on false
        | none => false)
    && ((List.range ops.size).all fun t => decide (t < n) || !listed.getD t true)
theorem wpAny_head {l : List Oper} {Q : Exit → Act → World → Prop} {listed : Array Bool} {a : Act} {w : World} (k n : Nat) (hw : C w) (hB : tailOk md l.toArray k n listed = true)
    (h : wpQuiet P l.toArray C (fun a' => ∀ w', C w' → wpList P l.toArray Q (l.drop n) a' w') ((l.take n).drop k) a) {m : Nat} (hm : m = l.length - k) : wpAny P md l.toArray Q m listed a w := by
  subst hm
  unfold tailOk at hB
  simp only [Bool.and_eq_true, decide_eq_true_eq] at hB
  obtain ⟨⟨⟨⟨⟨⟨⟨⟨hsel, hkn⟩, hn⟩, hs⟩, hc⟩, hlex⟩, hsz⟩, hcl⟩, htl⟩ := hB
  have hn' : n < l.length := by simpa using hn
  have hlen : ((l.take n).drop k).length = n - k := by rw [List.length_drop, List.length_take]; omega
  have came : Came md l.toArray n listed listed := by
    refine ⟨⟨hsz, fun j oj hoj hl e he hb => ?_, fun t ht ht' => ?_⟩, fun _ h => h⟩
    · have hj := (Array.getElem?_eq_some_iff.1 hoj).1
      have h1 := List.all_eq_true.1 hcl j (List.mem_range.2 hj)
      simp only [hl, Bool.not_true, Bool.false_or, hoj] at h1
      have h2 := Array.all_eq_true_iff_forall_mem.1 h1 e he
      simpa [hb] using h2
    · have h1 := List.all_eq_true.1 htl t (List.mem_range.2 ht')
      simp only [Bool.or_eq_true, decide_eq_true_eq, Bool.not_eq_true'] at h1
      rcases h1 with h1 | h1
      · omega
      · exact h1
  have H := headQ_lex (md := md) (g := l.toArray.size - n) hsel hs hc ((l.take n).drop k) k listed a (fun j hj => by
    rw [hlen] at hj
    simp only [List.getElem?_drop, List.getElem?_toArray]
    rw [List.getElem?_take, if_pos (by omega)]) (by rw [hlen]; omega) came (by rw [hlen]; exact hlex) h
  have e : l.length - k = ((l.take n).drop k).length + (l.toArray.size - n) := by rw [hlen]; simp; omega
  rw [e]
  refine headQ_any (fun listed' a' w' hw' hL => ?_) _ listed a w hw H
  have hd : l.toArray.size - n = (l.drop n).length := by simp
  rw [hd]
  rw [hd] at hL
  exact wpAny_of_seq (l.drop n) n listed' a' w' (fun j => by simp) hL.1 (hL.2 w' hw')
/-- A region that draws its order, each of whose operations hands back one value in every world of a class and leaves it in the class. -/
theorem wp_region_class {id : Nat} {Q : Exit → Act → World → Prop} {a : Act} {w : World} {l : List Oper} (hm : P.follows .mixedOrders = true) (hB : Region.lexB .any l.toArray = true) (hC : C w.drew)
    (h : wpQuiet P l.toArray C (fun a' => ∀ w', C w' → Q .normal a' w') l a) : (Code.region id l.toArray true).wp P Q a w :=
  wp_region_quiet hm hB hC (by simpa using h)
/-- One operation of the walk of what only reads: a value. -/
theorem wpQuiet_val {Q : Act → Prop} {o : Oper} {rest : List Oper} {a : Act} (hgd : Region.wanted o (yielded ops a.tmps) = true) (v : Value) (h0 : ∀ w, C w → (execOp a.eval o).run P w = .ok (.value v) w)
    (h : wpQuiet P ops C Q rest (a.put o.dst v)) : wpQuiet P ops C Q (o :: rest) a := by
  unfold wpQuiet
  rw [if_pos hgd]
  refine ⟨v, fun w hw => ?_, h⟩
  unfold Oper.quietAt
  rw [h0 w hw]
  exact ⟨rfl, rfl⟩
/-- .. a call. -/
theorem wpQuiet_enter {Q : Act → Prop} {o : Oper} {rest : List Oper} {a : Act} (hgd : Region.wanted o (yielded ops a.tmps) = true) (f : FuncId) (args : Array Value) (h0 : ∀ w, (execOp a.eval o).run P w = .ok (.enter f args) w) (v : Value)
    (hc : ∀ w, C w → Calls P f args w fun e w' => e = .returned v ∧ C w') (h : wpQuiet P ops C Q rest (a.put o.dst v)) : wpQuiet P ops C Q (o :: rest) a := by
  unfold wpQuiet
  rw [if_pos hgd]
  refine ⟨v, fun w hw => ?_, h⟩
  unfold Oper.quietAt
  rw [h0 w]
  exact ⟨rfl, hc w hw⟩
/-- .. one whose guard does not hold. -/
theorem wpQuiet_not {Q : Act → Prop} {o : Oper} {rest : List Oper} {a : Act} (hgd : Region.wanted o (yielded ops a.tmps) = false) (h : wpQuiet P ops C Q rest (a.put o.dst undef)) : wpQuiet P ops C Q (o :: rest) a := by
  unfold wpQuiet
  rw [if_neg (by rw [hgd]; simp)]
  exact h
/-- .. a conversion that only reads. -/
theorem wpQuiet_conv {Q : Act → Prop} {o : Oper} {rest : List Oper} {a : Act} (hgd : Region.wanted o (yielded ops a.tmps) = true) (t1 t2 : TypeId) (x : Operand) (ho : o.op = .convert t1 t2 x) (v : Value) (h0 : ∀ w, C w → (convert t1 t2 (a.eval x)).run P w = .ok v w)
    (h : wpQuiet P ops C Q rest (a.put o.dst v)) : wpQuiet P ops C Q (o :: rest) a := by
  refine wpQuiet_val hgd v (fun w hw => ?_) h
  unfold execOp
  simp only [ho, Sem.run_bind, Sem.run_pure, Result.andThen_ok, h0 w hw]
/-- .. a move. -/
theorem wpQuiet_move {Q : Act → Prop} {o : Oper} {rest : List Oper} {a : Act} (hgd : Region.wanted o (yielded ops a.tmps) = true) (x : Operand) (ho : o.op = .move x) (h : wpQuiet P ops C Q rest (a.put o.dst (a.eval x))) : wpQuiet P ops C Q (o :: rest) a := by
  refine wpQuiet_val hgd _ (fun w _ => ?_) h
  unfold execOp
  simp only [ho, Sem.run_pure]
theorem wpQuiet_assign {Q : Act → Prop} {o : Oper} {rest : List Oper} {a : Act} (hgd : Region.wanted o (yielded ops a.tmps) = true) (x : Operand) (ho : o.op = .assign x) (h : wpQuiet P ops C Q rest (a.put o.dst (a.eval x))) : wpQuiet P ops C Q (o :: rest) a := by
  refine wpQuiet_val hgd _ (fun w _ => ?_) h
  unfold execOp
  simp only [ho, Sem.run_pure]
end

open Go.RowKit
/-- A world that extends w. -/
def Ext (w : World) : Type := { w' : World // Below w.heap.size w w' }
def Ext.at_ {w : World} (s : Ext w) : World := s.1
theorem Ext.below {w : World} (s : Ext w) : Below w.heap.size w s.at_ := s.2
theorem ext_nonempty (w : World) : Nonempty (Ext w) := ⟨⟨w, Below.refl _ _⟩⟩
theorem Ext.call {P : Program} {f : FuncId} {args : Array Value} {w : World} {s : Ext w} {v : Value} (h : Calls P f args s.at_ fun e w' => e = .returned v ∧ Below s.at_.heap.size s.at_ w') :
    Calls P f args s.at_ fun e w' => e = .returned v ∧ ∃ s' : Ext w, w' = s'.at_ :=
  h.mono fun _ w' ⟨he, hb⟩ => ⟨he, ⟨w', s.2.trans (hb.mono s.2.size)⟩, rfl⟩
section
variable {P : Program}
theorem wp_region_ext {id : Nat} {Q : Exit → Act → World → Prop} {a : Act} {w : World} {l : List Oper} (hm : P.follows .mixedOrders = true) (hB : Region.lexB .any l.toArray = true)
    (h : wpQuiet P l.toArray (fun w' => ∃ s : Ext w, w' = s.at_) (fun a' => ∀ w', (∃ s : Ext w, w' = s.at_) → Q .normal a' w') l a) : (Code.region id l.toArray true).wp P Q a w :=
  wp_region_class (C := fun w' => ∃ s : Ext w, w' = s.at_) hm hB ⟨⟨w.drew, (Below.refl _ _).drew⟩, rfl⟩ h
end
end Go.Proofs.YtmnndehoopmmaaaGreatDoor
