/- A region that draws its order: its first operations only read, or lay new memory; each of the others waits for the first of those behind them. What stands behind is walked on by itself. -/
import Derived.Test.YtmnndehoopmmaaaGreatDoorQt
namespace Go.Proofs.YtmnndehoopmmaaaGreatDoor
section
variable {P : Program} {ops : Array Oper} {md : Region.Mode} {C : World → Prop}
/-- Each behind n waits for one of those from n on. -/
def laterB (md : Region.Mode) (ops : Array Oper) (n : Nat) : Bool :=
  (List.range ops.size).all fun t => decide (t ≤ n) || (List.range t).any fun j => decide (n ≤ j) && Region.waitsFor md ops t j
theorem later_waits {n : Nat} {l0 listed : Array Bool} (hc : laterB md ops n = true) (h : Came md ops n l0 listed) (hn : n ∉ Region.ready md ops listed) : ∀ t, n ≤ t → t ∉ Region.ready md ops listed := by
  intro t
  rcases Nat.lt_or_ge n t with h1 | h1
  · intro _ hr
    obtain ⟨_, ot, hot, hall⟩ := mem_ready.1 hr
    have htl := (Array.getElem?_eq_some_iff.1 hot).1
    have h2 := List.all_eq_true.1 hc t (List.mem_range.2 htl)
    rw [Bool.or_eq_true, decide_eq_true_eq] at h2
    rcases h2 with h2 | h2
    · omega
    · obtain ⟨j, hj, hw⟩ := List.any_eq_true.1 h2
      rw [Bool.and_eq_true, decide_eq_true_eq] at hw
      obtain ⟨o', ho', e, he, hb, hon⟩ := Region.waitsFor_spec hw.2
      obtain rfl : o' = ot := Option.some.inj (ho'.symm.trans hot)
      have h3 := hall e he hb
      have hjt := List.mem_range.1 hj
      rw [hon, getD_both (h.inv.tail j hw.1 (by omega))] at h3
      cases h3
  · intro h2
    obtain rfl : t = n := by omega
    exact hn
theorem stage_rest {n i : Nat} {l0 listed : Array Bool} (hs : sinkL md ops n l0 = true) (hc : laterB md ops n = true) (h : Came md ops n l0 listed) (hi : i < n) (hun : listed.getD i false = false) :
    ∀ t, n ≤ t → t ∉ Region.ready md ops listed := later_waits hc h (first_waits hs h (n - i) i rfl hi hun)
theorem headS_first {n i : Nat} {oi : Oper} {v : Value} {L : Array Bool → Act → Prop} {l0 : Array Bool} (hi : ops[i]? = some oi) (hsel : Region.noSelect ops = true) (hs : sinkL md ops n l0 = true) (hc : laterB md ops n = true) (hin : i < n)
    (hdone : ∀ listed a, L listed a → ∀ j ∈ Region.ready md ops listed, n ≤ j) (f : Nat) :
    ∀ (listed : Array Bool) (a : Act), Came md ops n l0 listed →
      (∀ j oj, ops[j]? = some oj → j ≠ i → listed.getD j true = false → (∀ e ∈ oj.after, Region.binds md e = true → e.on ≠ i) → oi.apart ops oj = true) →
      i ∈ Region.ready md ops listed → YieldsIn P ops C oi v a → headQ P md ops C n L f (listed.setIfInBounds i true) (a.put oi.dst v) → headQ P md ops C n L (f + 1) listed a := by
  have ns := Region.noSelect_spec hsel
  induction f with
  | zero =>
    intro listed a inv _ hr hy H
    have hun := getD_both (mem_ready.1 hr).1
    refine ⟨fun e => (by rw [e] at hr; cases hr), fun j hj => ?_⟩
    have hjn : j < n := Nat.lt_of_not_ge fun hge => stage_rest hs hc inv hin hun j hge hj
    by_cases hji : j = i
    · subst hji; exact ⟨hjn, hy.qOp hi H⟩
    · have := hdone _ _ H j (ready_mono hj hji)
      omega
  | succ f ih =>
    intro listed a inv hfree hr hy H
    have hun := getD_both (mem_ready.1 hr).1
    refine ⟨fun e => (by rw [e] at hr; cases hr), fun j hj => ?_⟩
    have hjn : j < n := Nat.lt_of_not_ge fun hge => stage_rest hs hc inv hin hun j hge hj
    refine ⟨hjn, ?_⟩
    by_cases hji : j = i
    · subst hji; exact hy.qOp hi H
    · obtain ⟨hjun, oj, hoj, hall⟩ := mem_ready.1 hj
      have hnot : ∀ e ∈ oj.after, Region.binds md e = true → e.on ≠ i := fun e he hb heq => by
        have := hall e he hb
        rw [heq, hun] at this
        cases this
      have h2 := qOp_put hoj (hfree j oj hoj hji hjun hnot) (fun cs b => ns i oi cs b hi) (fun cs b => ns j oj cs b hoj) hy (H.2 j (ready_mono hj hji)).2
      refine qOp_mono (fun a' h3 => ih _ a' (inv.set hj hjn) (fun k ok hk hki hkun hno => hfree k ok hk hki ?_ hno) (ready_mono hr (Ne.symm hji)) h3.1 ?_) h2
      · by_cases hjk : j = k
        · subst hjk; exact hjun
        · rwa [getD_set_ne true hjk] at hkun
      · rw [Array.setIfInBounds_comm _ _ hji]
        exact h3.2
/-- Those that came up, after n more in the text's order. -/
def cameL : Nat → Nat → Array Bool → Array Bool
  | 0, _, l => l
  | n + 1, k, l => cameL n (k + 1) (l.setIfInBounds k true)
def stepsB (md : Region.Mode) (ops : Array Oper) : Nat → Nat → Array Bool → Bool
  | 0, _, _ => true
  | n + 1, k, listed => (Region.ready md ops listed).contains k && Region.free md ops listed k && stepsB md ops n (k + 1) (listed.setIfInBounds k true)
theorem headS_lex {n : Nat} {Lq : Act → Prop} {l0 l1 : Array Bool} (hsel : Region.noSelect ops = true) (hs : sinkL md ops n l0 = true) (hc : laterB md ops n = true) (hd : ∀ j ∈ Region.ready md ops l1, n ≤ j) (l : List Oper) :
    ∀ (k : Nat) (listed : Array Bool) (a : Act), (∀ j, j < l.length → l[j]? = ops[k + j]?) → k + l.length = n → Came md ops n l0 listed → stepsB md ops l.length k listed = true → cameL l.length k listed = l1 → wpQuiet P ops C Lq l a →
      headQ P md ops C n (fun listed' a' => listed' = l1 ∧ Lq a') l.length listed a := by
  induction l with
  | nil =>
    intro k listed a _ hk _ hB h1 h
    exact ⟨h1, h⟩
  | cons o l ih =>
    intro k listed a hl hk inv hB h1 h
    have h0 : ops[k]? = some o := by simpa using (hl 0 (by simp)).symm
    simp only [List.length_cons, stepsB, Bool.and_eq_true] at hB
    have hkn : k < n := by simp only [List.length_cons] at hk; omega
    have hr : k ∈ Region.ready md ops listed := by simpa using hB.1.1
    have hq : qOp P ops C k (wpQuiet P ops C Lq l) a := by unfold qOp; simp only [h0]; exact h
    obtain ⟨v, hy, hK⟩ := yieldsIn_of_qOp h0 hq
    refine headS_first h0 hsel hs hc hkn (fun listed' a' hL => by rw [hL.1]; exact hd) l.length listed a inv (Region.free_spec h0 hB.1.2) hr hy ?_
    refine ih (k + 1) _ _ (fun j hj => ?_) (by simp only [List.length_cons] at hk; omega) (inv.set hr hkn) hB.2 h1 hK
    have := hl (j + 1) (by simp; omega)
    simpa [Nat.add_assoc, Nat.add_comm 1 j] using this
def stageOk (md : Region.Mode) (ops : Array Oper) (k n : Nat) (listed : Array Bool) : Bool :=
  Region.noSelect ops && decide (k ≤ n) && decide (n < ops.size) && sinkL md ops n listed && laterB md ops n && stepsB md ops (n - k) k listed && decide (listed.size = ops.size)
    && ((List.range ops.size).all fun j => !listed.getD j false || match ops[j]? with
        | some oj => oj.after.all fun e => !Region.binds md e || listed.getD e.on false
        | none => false)
    && ((List.range ops.size).all fun t => decide (t < n) || !listed.getD t true)
    && ((Region.ready md ops (cameL (n - k) k listed)).all fun j => decide (n ≤ j))
theorem wpAny_stage {l : List Oper} {Q : Exit → Act → World → Prop} {listed : Array Bool} {a : Act} {w : World} (k n g : Nat) (hw : C w) (hB : stageOk md l.toArray k n listed = true) {m : Nat} (hm : m = g + (n - k))
    (h : wpQuiet P l.toArray C (fun a' => ∀ w', C w' → wpAny P md l.toArray Q g (cameL (n - k) k listed) a' w') ((l.take n).drop k) a) : wpAny P md l.toArray Q m listed a w := by
  subst hm
  unfold stageOk at hB
  simp only [Bool.and_eq_true, decide_eq_true_eq] at hB
  obtain ⟨⟨⟨⟨⟨⟨⟨⟨⟨hsel, hkn⟩, hn⟩, hs⟩, hc⟩, hst⟩, hsz⟩, hcl⟩, htl⟩, hdn⟩ := hB
  have hn' : n < l.length := by simpa using hn
  have hlen : ((l.take n).drop k).length = n - k := by rw [List.length_drop, List.length_take]; omega
  have came : Came md l.toArray n listed listed := by
    refine ⟨⟨hsz, fun j oj hoj hl e he hb => ?_, fun t ht ht' => ?_⟩, fun _ h => h⟩
    · have hj := (Array.getElem?_eq_some_iff.1 hoj).1
      have h1 := List.all_eq_true.1 hcl j (List.mem_range.2 hj)
      simp only [hl, Bool.not_true, Bool.false_or, hoj] at h1
      have h2 := Array.all_eq_true_iff_forall_mem.1 h1 e he
      simpa [hb] using h2
    · have h1 := List.all_eq_true.1 htl t (List.mem_range.2 ht')
      simp only [Bool.or_eq_true, decide_eq_true_eq, Bool.not_eq_true'] at h1
      rcases h1 with h1 | h1
      · omega
      · exact h1
  have H := headS_lex (md := md) (l1 := cameL (n - k) k listed) hsel hs hc (fun j hj => by simpa using List.all_eq_true.1 hdn j hj) ((l.take n).drop k) k listed a (fun j hj => by
    rw [hlen] at hj
    simp only [List.getElem?_drop, List.getElem?_toArray]
    rw [List.getElem?_take, if_pos (by omega)]) (by rw [hlen]; omega) came (by rw [hlen]; exact hst) (by rw [hlen]) h
  rw [hlen] at H
  rw [Nat.add_comm]
  refine headQ_any (fun listed' a' w' hw' hL => ?_) _ listed a w hw H
  rw [hL.1]
  exact hL.2 w' hw'
/-- An operation that looks at no memory. -/
def bareOp : Op → Bool
  | .move _ | .assign _ | .binOp .. | .convert .. | .index .. | .slice .. | .indexAddr .. => true
  | _ => false
theorem bare_value {ev : Operand → Value} {o : Oper} (h : bareOp o.op = true) {w w' : World} {n : Next} (hr : (execOp ev o).run P w = .ok n w') : ∃ v, n = .value v := by
  unfold execOp at hr
  have key : ∀ s : Sem Value, Sem.run P (do pure (Next.value (← s))) w = .ok n w' → ∃ v, n = .value v := by
    intro s hs
    rw [Sem.run_bind] at hs
    cases hx : Sem.run P s w with
    | ok v w1 =>
      rw [hx] at hs
      simp only [Result.andThen_ok, Sem.run_pure] at hs
      injection hs with h1 _
      exact ⟨v, h1.symm⟩
    | halt h1 w1 => rw [hx] at hs; cases hs
  cases ho : o.op <;> rw [ho] at h <;> simp only [ho] at hr <;> first
    | (simp [bareOp] at h; done)
    | exact key _ hr
    | (simp only [Sem.run_pure] at hr; injection hr with h1 _; exact ⟨_, h1.symm⟩)
def bareB (md : Region.Mode) (ops : Array Oper) : List Nat → Array Bool → Bool
  | [], _ => true
  | k :: ks, listed => Region.free md ops listed k && (Region.ready md ops listed).contains k && (match ops[k]? with | some o => bareOp o.op | none => false) && bareB md ops ks (listed.setIfInBounds k true)
def bareL : List Nat → Array Bool → Array Bool
  | [], l => l
  | k :: ks, l => bareL ks (l.setIfInBounds k true)
def bareO (ops : Array Oper) (ks : List Nat) : List Oper := ks.filterMap fun k => ops[k]?
theorem wpAny_bare' {Q : Exit → Act → World → Prop} {w : World} {g : Nat} (hs : Region.noSelect ops = true) (hQ : ∀ c a w d v, Q (.panic c) (Act.put a d v) w → Q (.panic c) a w) (ks : List Nat) :
    ∀ (listed : Array Bool) (a : Act), bareB md ops ks listed = true →
      wpQuiet P ops (fun _ => True) (fun a' => wpAny P md ops Q g (bareL ks listed) a' w) (bareO ops ks) a → wpAny P md ops Q (g + ks.length) listed a w := by
  induction ks with
  | nil => intro listed a _ h; exact h
  | cons k ks ih =>
    intro listed a hB h
    simp only [bareB, Bool.and_eq_true] at hB
    obtain ⟨⟨⟨hf, hr⟩, hp⟩, hB'⟩ := hB
    cases h0 : ops[k]? with
    | none => rw [h0] at hp; cases hp
    | some o =>
      rw [h0] at hp
      have e1 : bareO ops (k :: ks) = o :: bareO ops ks := by unfold bareO; rw [List.filterMap_cons, h0]
      rw [e1] at h
      have hq : qOp P ops (fun _ => True) k (wpQuiet P ops (fun _ => True) (fun a' => wpAny P md ops Q g (bareL ks (listed.setIfInBounds k true)) a' w) (bareO ops ks)) a := by
        unfold qOp; simp only [h0]; exact h
      obtain ⟨v, hy, hK⟩ := yieldsIn_of_qOp h0 hq
      have hY : Yields P ops o v a := by
        rcases hy with ⟨h1, h2⟩ | h1
        · refine Or.inl ⟨h1, fun w1 => ?_⟩
          have h3 := h2 w1 trivial
          unfold Oper.quietAt at h3
          cases hx : (execOp a.eval o).run P w1 with
          | ok n w2 =>
            obtain ⟨v', rfl⟩ := bare_value hp hx
            rw [hx] at h3
            obtain ⟨rfl, rfl⟩ := h3
            rfl
          | halt x1 x2 => rw [hx] at h3; exact False.elim h3
        · exact Or.inr h1
      have e : g + (k :: ks).length = g + ks.length + 1 := by rw [List.length_cons]; omega
      rw [e]
      exact wpAny_take h0 hs hf hr (fun c a w => hQ c a w _ _) hY (ih _ _ hB' hK)
theorem wpAny_bare {Q : Exit → Act → World → Prop} {w : World} {l : List Oper} {listed : Array Bool} {a : Act} {m : Nat} (ks : List Nat) (g : Nat) (hm : m = g + ks.length) (hs : (Region.noSelect l.toArray && bareB md l.toArray ks listed) = true)
    (hQ : ∀ c a w d v, Q (.panic c) (Act.put a d v) w → Q (.panic c) a w)
    (h : wpQuiet P l.toArray (fun _ => True) (fun a' => wpAny P md l.toArray Q g (bareL ks listed) a' w) (bareO l.toArray ks) a) : wpAny P md l.toArray Q m listed a w := by
  simp only [Bool.and_eq_true] at hs
  rw [hm]
  exact wpAny_bare' hs.1 hQ ks listed a hs.2 h
end
end Go.Proofs.YtmnndehoopmmaaaGreatDoor
