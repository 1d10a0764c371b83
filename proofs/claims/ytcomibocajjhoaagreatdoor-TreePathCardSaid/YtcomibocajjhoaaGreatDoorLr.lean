/- The laws' arguments, opened: texts, rows of texts. -/
import Derived.Test.YtcomibocajjhoaaGreatDoorLp
import Derived.Test.YtcomibocajjhoaaGreatDoorP17x
namespace Go.Proofs.YtcomibocajjhoaaGreatDoor
open Go.RowKit Go.ChangeShapes Go.WideShapes Go.ChangeAt Go.Deep
section
variable {H : Type} {enc : TypeId × Value → H} {P : Program} {w : World} {base : Nat} {spare : Nat → Bool} {held : Bool}
/-- A text that a caller hands over. -/
theorem open_str {r : Reach} {b0 : Nat} {t : TypeId} {v : Value} (ht : P.underlying t = some .string) (hval : Value.okWide P w r b0 t v) : ∃ s : ByteArray, v = .string s := okWide_string ht hval
/-- A row of texts that a caller hands over. -/
theorem open_row_strs {r : Reach} {b0 : Nat} {t e : TypeId} {v : Value} {d : DataW H} {ps : List MemPlace} (ht : P.underlying t = some (.slice e)) (he : P.underlying e = some .string) (hc : P.cellsOf e = 1)
    (hval : Value.okWide P w r b0 t v) (hd : DataW.Trod enc P w base spare held t v d ps) :
    ∃ A n c, ∃ ts : List (List UInt8), v = .slice A n c ∧ n ≤ c ∧ c ≤ maxLen ∧ Src w 1 A n (Ss ts) := by
  obtain ⟨A, n, c, rfl⟩ := okWide_slice ht hval
  obtain ⟨fuel, hf⟩ := hd
  rcases open_slice1 ht hc hf with ⟨h1, _⟩ | ⟨a, len, cap, m, q, V, D, Pl, h1, _, hl, hm, hmm, hx, hV⟩
  · have h2 : A = none ∧ n = 0 ∧ c = 0 := by simpa [Value.cells] using h1
    obtain ⟨rfl, rfl, rfl⟩ := h2
    exact ⟨none, 0, 0, [], rfl, Nat.le_refl _, by decide, ⟨rfl, fun h => by omega, fun u hu => by cases hu⟩⟩
  · have h2 : A = some a ∧ n = len ∧ c = cap := by simpa [Value.cells] using h1
    obtain ⟨rfl, rfl, rfl⟩ := h2
    have hnm : n ≤ m := by rw [hmm]; split <;> omega
    have hz : ∀ i, i < n → ∃ z : List UInt8, V i = .string ⟨z.toArray⟩ ∧ True := fun i hi => by
      obtain ⟨s, h1, _, _⟩ := DataW.trod_string he (hV i (by omega)).2
      have h2 : V i = .string s := by simpa using h1
      exact ⟨s.data.toList, by rw [h2, ba_of], trivial⟩
    obtain ⟨Z, hZ⟩ := choose_lt hz
    refine ⟨some a, n, c, (List.range n).map Z, rfl, hl, hm, ⟨by simp, fun _ => ⟨a, rfl, fun j u hj => ?_⟩, Ss_one _⟩⟩
    have hj' : j < n := by
      have := (List.getElem?_eq_some_iff.1 hj).1
      simpa using this
    have h3 : u = V j := by
      have : some u = some (.string ⟨(Z j).toArray⟩) := by rw [← hj]; simp [Ss, hj']
      rw [Option.some.inj this, (hZ j hj').1]
    rw [h3]
    exact (hV j (by omega)).1
end
end Go.Proofs.YtcomibocajjhoaaGreatDoor
