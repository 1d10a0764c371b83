/- A region that draws its order: a row of its operations that look at no memory, taken first, one after the other; what else it does stands in whatever order. -/
import Derived.Deep.QuietTactic
import Derived.BigQuiet
import Derived.RegionTactic
import Derived.Test.YtmnndehoopmmaaaGreatDoorQt
namespace Go.Proofs.YtmnndehoopmmaaaGreatDoor
section
variable {P : Program} {ops : Array Oper} {md : Region.Mode}
/-- An operation that hands back a value, and never enters a function. -/
def plainOp : Op → Bool
  | .move _ | .assign _ | .binOp .. | .convert .. | .index .. => true
  | _ => false
theorem plain_value {ev : Operand → Value} {o : Oper} (h : plainOp o.op = true) {w w' : World} {n : Next} (hr : (execOp ev o).run P w = .ok n w') : ∃ v, n = .value v := by
  unfold execOp at hr
  have key : ∀ s : Sem Value, Sem.run P (do pure (Next.value (← s))) w = .ok n w' → ∃ v, n = .value v := by
    intro s hs
    rw [Sem.run_bind] at hs
    cases hx : Sem.run P s w with
    | ok v w1 =>
      rw [hx] at hs
      simp only [Result.andThen_ok, Sem.run_pure] at hs
      injection hs with h1 _
      exact ⟨v, h1.symm⟩
    | halt h1 w1 => rw [hx] at hs; cases hs
  cases ho : o.op <;> rw [ho] at h <;> simp only [ho] at hr <;> first
    | (simp [plainOp] at h; done)
    | exact key _ hr
    | (simp only [Sem.run_pure] at hr; injection hr with h1 _; exact ⟨_, h1.symm⟩)
def takesB (md : Region.Mode) (ops : Array Oper) : Nat → Nat → Array Bool → Bool
  | 0, _, _ => true
  | n + 1, k, listed => Region.free md ops listed k && (Region.ready md ops listed).contains k && (match ops[k]? with | some o => plainOp o.op | none => false) && takesB md ops n (k + 1) (listed.setIfInBounds k true)
def tookL : Nat → Nat → Array Bool → Array Bool
  | 0, _, l => l
  | n + 1, k, l => tookL n (k + 1) (l.setIfInBounds k true)
theorem wpAny_takes {Q : Exit → Act → World → Prop} {w : World} {g : Nat} (hs : Region.noSelect ops = true) (hQ : ∀ c a w d v, Q (.panic c) (Act.put a d v) w → Q (.panic c) a w) (l : List Oper) :
    ∀ (k : Nat) (listed : Array Bool) (a : Act), (∀ j, j < l.length → l[j]? = ops[k + j]?) → takesB md ops l.length k listed = true →
      wpQuiet P ops (fun _ => True) (fun a' => wpAny P md ops Q g (tookL l.length k listed) a' w) l a → wpAny P md ops Q (g + l.length) listed a w := by
  induction l with
  | nil => intro k listed a _ _ h; exact h
  | cons o l ih =>
    intro k listed a hl hB h
    have h0 : ops[k]? = some o := by simpa using (hl 0 (by simp)).symm
    simp only [List.length_cons, takesB, Bool.and_eq_true, h0] at hB
    obtain ⟨⟨⟨hf, hr⟩, hp⟩, hB'⟩ := hB
    have hq : qOp P ops (fun _ => True) k (wpQuiet P ops (fun _ => True) (fun a' => wpAny P md ops Q g (tookL l.length (k + 1) (listed.setIfInBounds k true)) a' w) l) a := by
      unfold qOp; simp only [h0]; exact h
    obtain ⟨v, hy, hK⟩ := yieldsIn_of_qOp h0 hq
    have hY : Yields P ops o v a := by
      rcases hy with ⟨h1, h2⟩ | h1
      · refine Or.inl ⟨h1, fun w1 => ?_⟩
        have h3 := h2 w1 trivial
        unfold Oper.quietAt at h3
        cases hx : (execOp a.eval o).run P w1 with
        | ok n w2 =>
          obtain ⟨v', rfl⟩ := plain_value hp hx
          rw [hx] at h3
          obtain ⟨rfl, rfl⟩ := h3
          rfl
        | halt x1 x2 => rw [hx] at h3; exact False.elim h3
      · exact Or.inr h1
    have e : g + (o :: l).length = g + l.length + 1 := by rw [List.length_cons]; omega
    rw [e]
    exact wpAny_take h0 hs hf hr (fun c a w => hQ c a w _ _) hY (ih (k + 1) _ _ (fun j hj => by
      have := hl (j + 1) (by simp; omega)
      simpa [Nat.add_assoc, Nat.add_comm 1 j] using this) hB' hK)
theorem wpAny_prefix {Q : Exit → Act → World → Prop} {w : World} {l : List Oper} {listed : Array Bool} {a : Act} {m : Nat} (n g : Nat) (hm : m = g + n) (hs : (Region.noSelect l.toArray && decide (n ≤ l.length) && takesB md l.toArray n 0 listed) = true)
    (hQ : ∀ c a w d v, Q (.panic c) (Act.put a d v) w → Q (.panic c) a w)
    (h : wpQuiet P l.toArray (fun _ => True) (fun a' => wpAny P md l.toArray Q g (tookL n 0 listed) a' w) (l.take n) a) : wpAny P md l.toArray Q m listed a w := by
  simp only [Bool.and_eq_true, decide_eq_true_eq] at hs
  obtain ⟨⟨h1, h2⟩, h3⟩ := hs
  have e : (l.take n).length = n := by rw [List.length_take]; omega
  have := wpAny_takes (P := P) (md := md) (Q := Q) (w := w) (g := g) h1 hQ (l.take n) 0 listed a (fun j hj => by
    rw [List.getElem?_take, if_pos (by omega)]; simp) (by rw [e]; exact h3) (by rw [e]; exact h)
  rw [e] at this
  rw [hm]
  exact this
end
end Go.Proofs.YtmnndehoopmmaaaGreatDoor
