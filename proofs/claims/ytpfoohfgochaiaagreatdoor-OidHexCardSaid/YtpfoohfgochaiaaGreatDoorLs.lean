/- A region's list of operations, cut in two. -/
import Derived.WalkKit
namespace Go.Proofs.YtpfoohfgochaiaaGreatDoor
open Go.RowKit
section
variable {P : Program} {ops : Array Oper} {Q N : Exit → Act → World → Prop} {K : Act → World → Prop}
theorem lets_then (h : LetsOut (Exit.then K Q)) : LetsOut Q := h
theorem oper_then {o : Oper} {a : Act} {w : World} {next : Act → World → Prop} (h : o.wp P a w next (Exit.then K Q)) : o.wp P a w next Q := by
  unfold Oper.wp at *
  generalize (execOp a.eval o).run P w = r at *
  cases r with
  | ok n w' =>
    cases n <;> simp only [Oper.upon] at h ⊢ <;>
      first
        | exact h
        | exact Calls.mono h (fun e w'' he => by cases e <;> exact he)
  | halt x w' => cases x <;> simp only [Oper.upon] at h ⊢ <;> exact h
theorem wpList_seq (l2 : List Oper) : ∀ (l1 : List Oper) (a : Act) (w : World), wpList P ops (Exit.then (fun a w => wpList P ops Q l2 a w) Q) l1 a w → wpList P ops Q (l1 ++ l2) a w
  | [], _, _, h => h
  | o :: l1, a, w, h => by
    show wpList P ops Q (o :: (l1 ++ l2)) a w
    unfold wpList at h ⊢
    split at h
    · rename_i hw
      rw [if_pos hw]
      rcases h with h | ⟨h1, h2⟩
      · exact .inl (oper_then (Oper.wp_mono (fun a w => wpList_seq l2 l1 a w) h))
      · exact .inr ⟨h1, h2⟩
    · rename_i hw
      rw [if_neg hw]
      exact wpList_seq l2 l1 _ _ h
/-- The first n operations, then the others: the walk stops between. -/
theorem wp_region_split {id : Nat} {l : List Oper} {a : Act} {w : World} (n : Nat)
    (h : ∀ K : Act → World → Prop, (∀ a w, wpList P l.toArray Q (l.drop n) a w → K a w) → wpList P l.toArray (Exit.then K Q) (l.take n) a w) : (Code.region id l.toArray false).wp P Q a w := by
  refine wp_region_lit ?_
  have := wpList_seq (P := P) (ops := l.toArray) (Q := Q) (l.drop n) (l.take n) a w (h _ fun _ _ h => h)
  rwa [List.take_append_drop] at this
/-- A guard that holds is struck. -/
theorem wpl_guard {o : Oper} {rest : List Oper} {a : Act} {w : World} (hgd : Region.wanted o (yielded ops a.tmps) = true) (h : wpList P ops Q ({ o with guard := none } :: rest) a w) : wpList P ops Q (o :: rest) a w := by
  unfold wpList at h ⊢
  rw [if_pos hgd]
  rw [if_pos (by simp [Region.wanted])] at h
  exact h
end
end Go.Proofs.YtpfoohfgochaiaaGreatDoor
