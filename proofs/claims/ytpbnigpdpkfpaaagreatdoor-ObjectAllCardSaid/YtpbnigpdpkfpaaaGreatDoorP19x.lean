/- ref5.Path: the document's parts of a path are the program's. Rows of elements of many cells: one element stored anew; two changed about. -/
import Derived.Test.YtpbnigpdpkfpaaaGreatDoorP12x
import Derived.Test.YtpbnigpdpkfpaaaGreatDoorNm
import Derived.Test.YtpbnigpdpkfpaaaGreatDoorP5x
import Derived.Test.YtpbnigpdpkfpaaaGreatDoorP7x
import Derived.Test.YtpbnigpdpkfpaaaGreatDoorRk
namespace Go.Proofs.YtpbnigpdpkfpaaaGreatDoor
open Go.RowKit
end Go.Proofs.YtpbnigpdpkfpaaaGreatDoor
namespace Go.Proofs.YtpbnigpdpkfpaaaGreatDoor
open Go.RowKit
section
variable {α : Type} (E : Enc α)
end
/-- A row of the caller's own, whatever it holds. -/
def OwnR (w : World) (N : Nat) (e : TypeId) (k : Nat) (v : Value) (n : Nat) : Prop := ∃ xs, RowQ w N e k v n xs
theorem OwnR.below {w w' : World} {N : Nat} {e : TypeId} {k : Nat} {v : Value} {n : Nat} (h : OwnR w N e k v n) (hb : Below w.heap.size w w') : OwnR w' N e k v n := by
  obtain ⟨xs, h⟩ := h
  exact ⟨xs, h.below hb⟩
theorem OwnR.far {w : World} {N : Nat} {e : TypeId} {k : Nat} {v : Value} {n : Nat} (h : OwnR w N e k v n) : ∀ g, v.ownBlock = some g → N ≤ g ∧ g < w.heap.size := by
  obtain ⟨xs, h⟩ := h
  exact fun g hg => h.lt g hg
theorem OwnR.at {w : World} {N : Nat} {e : TypeId} {k : Nat} {A : Option Addr} {n c : Nat} (h : OwnR w N e k (.slice A n c) n) (hn : 0 < n) : n ≤ c ∧ ∃ g o, A = some ⟨g, o, none⟩ ∧ N ≤ g ∧ g < w.heap.size ∧ (∀ i, i < n * k → (∃ v, w.cell? ⟨g, o + i, none⟩ = some v) ∧ w.frozen? ⟨g, o + i, none⟩ = false) ∧
    (∀ i v, i < n * k → OwnR (w.setCell ⟨g, o + i, none⟩ v) N e k (.slice A n c) n) ∧ (∀ j, j < n → w.there g (o + j * k) k) ∧ (∀ j vs, j < n → vs.length = k → OwnR (w.setCells g (o + j * k) vs) N e k (.slice A n c) n) := by
  obtain ⟨xs, hl, ⟨h3, h4⟩ | ⟨g, o, cap, cur, hv, hb, hg, hnc, hcm, hoc, hx⟩⟩ := h
  · omega
  · injection hv with h1 h2 h3
    subst h1; subst h3
    have hb2 : Blk w g e cur.toList := hg
    have hnk : n * k ≤ c * k := Nat.mul_le_mul_right _ hnc
    have hmul : ∀ j, j < n → j * k + k ≤ n * k := fun j hj => by
      have := Nat.mul_le_mul_right k (show j + 1 ≤ n by omega)
      rw [Nat.add_mul, Nat.one_mul] at this
      exact this
    have own : ∀ (w' : World) (cs : List Value), Blk w' g e cs → cs.length = cur.size → OwnR w' N e k (.slice (some ⟨g, o, none⟩) n c) n := fun w' cs hb3 hl3 => by
      refine ⟨(cs.drop o).take (n * k), ?_, .inr ⟨g, o, c, cs.toArray, rfl, hb, hb3, hnc, hcm, by simpa [hl3] using hoc, rfl⟩⟩
      rw [List.length_take, List.length_drop, hl3]
      omega
    refine ⟨hnc, g, o, rfl, hb, hb2.lt, fun i hi => ⟨⟨_, hb2.cell (o + i) _ (List.getElem?_eq_getElem (by rw [Array.length_toList]; omega))⟩, hb2.frozen _⟩, fun i v hi => own _ _ (hb2.setCell (o + i) v) (by simp), fun j hj => hb2.there _ _ (by rw [Array.length_toList]; have := hmul j hj; omega), fun j vs hj hvs => own _ _ (Blk.setCells vs (o + j * k) w _ hb2 (by have h7 : cur.toList.length = cur.size := Array.length_toList; rw [hvs, h7]; have := hmul j hj; omega)) ?_⟩
    simp only [List.length_append, List.length_take, List.length_drop, Array.length_toList, hvs]
    have := hmul j hj
    omega
end Go.Proofs.YtpbnigpdpkfpaaaGreatDoor
