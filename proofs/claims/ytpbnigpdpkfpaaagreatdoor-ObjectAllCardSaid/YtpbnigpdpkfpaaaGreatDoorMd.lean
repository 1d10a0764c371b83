/- Names of which none stands twice: as many as there are in order. -/
import Derived.Test.YtpbnigpdpkfpaaaGreatDoorP4x
namespace Go.Proofs.YtpbnigpdpkfpaaaGreatDoor
theorem insI_len_new (l : List Idt) (x : Idt) (h : x ∉ l) : (insI l x).length = l.length + 1 := by
  induction l with
  | nil => rfl
  | cons y r ih =>
    rw [List.mem_cons, not_or] at h
    unfold insI
    split
    · simp [ih h.2]
    · rw [if_neg (fun e => h.1 e.symm)]
      rfl
theorem sortI_new (l : List Idt) (k : Nat) (hk : k ≤ l.length) (h : ∀ j, j < k → l[j]! ∉ l.take j) : (sortI (l.take k)).length = k := by
  induction k with
  | zero => rw [← putI_eq]; rfl
  | succ k ih =>
    have h1 := ih (by omega) (fun j hj => h j (by omega))
    have e : l.take (k + 1) = l.take k ++ [l[k]!] := by
      rw [List.take_succ_eq_append_getElem (by omega), getElem!_pos l k (by omega)]
    rw [e, ← putI_eq, putI_snoc, insI_len_new, putI_eq, h1]
    rw [putI_eq, (sortI_holds _).2]
    exact h k (by omega)
theorem sortI_twice (l : List Idt) (k : Nat) (hk : k < l.length) (h : l[k]! ∈ l.take k) : (sortI l).length ≠ l.length := by
  have hl : l = l.take k ++ l[k]! :: l.drop (k + 1) := by
    conv => lhs; rw [← List.take_append_drop k l, List.drop_eq_getElem_cons hk]
    rw [getElem!_pos l k hk]
  have e : sortI l = sortI (l.take k ++ l.drop (k + 1)) := rises_ext _ _ (sortI_holds _).1 (sortI_holds _).1 fun x => by
    rw [(sortI_holds _).2, (sortI_holds _).2]
    constructor
    · intro hx
      rw [hl] at hx
      rcases List.mem_append.1 hx with h1 | h1
      · exact List.mem_append_left _ h1
      · rcases List.mem_cons.1 h1 with rfl | h2
        · exact List.mem_append_left _ h
        · exact List.mem_append_right _ h2
    · intro hx
      rcases List.mem_append.1 hx with h1 | h1
      · exact List.mem_of_mem_take h1
      · exact List.mem_of_mem_drop h1
  have := sortI_len (l.take k ++ l.drop (k + 1))
  rw [← e, List.length_append, List.length_take, List.length_drop] at this
  omega
end Go.Proofs.YtpbnigpdpkfpaaaGreatDoor
