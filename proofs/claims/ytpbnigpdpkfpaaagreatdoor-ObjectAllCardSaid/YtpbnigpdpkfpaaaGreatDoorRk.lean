/- Rows of elements of k cells each: how they lie, what is read of them. -/
import Derived.Test.YtpbnigpdpkfpaaaGreatDoorOd
import Derived.Test.YtpbnigpdpkfpaaaGreatDoorKc
import Derived.Test.YtpbnigpdpkfpaaaGreatDoorP1x
import Derived.Test.YtpbnigpdpkfpaaaGreatDoorP2x
namespace Go.Proofs.YtpbnigpdpkfpaaaGreatDoor
open Go.RowKit Go.Sort
/-- How an element lies in k cells. -/
structure Enc (α : Type) where
  enc : α → List Value
  k : Nat
  len : ∀ x, (enc x).length = k
  one : ∀ x, ∀ v ∈ enc x, v.oneCell' = true
  pos : 0 < k
theorem addr_row (ad : Addr) (h : ad.spot = none) (j : Nat) : ad.add j = ⟨ad.block, ad.off + j, none⟩ := by
  unfold Addr.add
  split
  · rename_i e; subst e; cases ad; simp_all
  · rfl
theorem spot_cell {w : World} {a : Addr} {v : Value} (h : w.cell? a = some v) : a.spot = none := by
  unfold World.cell? at h
  split at h
  · split at h
    · cases h
    · rename_i h1; cases hs : a.spot <;> simp_all
  · cases h
namespace Enc
variable {α : Type} (E : Enc α)
def row (l : List α) : List Value := l.flatMap E.enc
theorem row_len (l : List α) : (E.row l).length = l.length * E.k := by
  induction l with
  | nil => simp [row]
  | cons x r ih =>
    unfold row at ih ⊢
    rw [List.flatMap_cons, List.length_append, ih, E.len, List.length_cons, Nat.succ_mul]
    omega
theorem row_one (l : List α) : ∀ v ∈ E.row l, v.oneCell' = true := by
  intro v hv
  obtain ⟨x, _, h⟩ := List.mem_flatMap.1 hv
  exact E.one x v h
theorem row_append (a b : List α) : E.row (a ++ b) = E.row a ++ E.row b := List.flatMap_append
theorem row_take (l : List α) (j : Nat) (h : j ≤ l.length) : (E.row l).take (j * E.k) = E.row (l.take j) := by
  have e : (l.take j).length = j := by rw [List.length_take]; omega
  conv => lhs; rw [← List.take_append_drop j l, row_append]
  rw [List.take_append_of_le_length (by rw [row_len, e]; exact Nat.le_refl _), List.take_of_length_le (by rw [row_len, e]; exact Nat.le_refl _)]
theorem row_at [Inhabited α] (l : List α) : ∀ (j i : Nat) (v : Value), j < l.length → (E.enc l[j]!)[i]? = some v → (E.row l)[j * E.k + i]? = some v := by
  induction l with
  | nil => intro j i v h; simp at h
  | cons x r ih =>
    intro j i v h hv
    have e : E.row (x :: r) = E.enc x ++ E.row r := rfl
    rw [e]
    cases j with
    | zero =>
      have hi : i < (E.enc x).length := (List.getElem?_eq_some_iff.1 hv).1
      rw [Nat.zero_mul, Nat.zero_add, List.getElem?_append_left hi]
      exact hv
    | succ j =>
      have e2 : (j + 1) * E.k + i = E.k + (j * E.k + i) := by rw [Nat.succ_mul]; omega
      rw [e2, List.getElem?_append_right (by rw [E.len]; omega), E.len, Nat.add_sub_cancel_left]
      exact ih j i v (by simpa using h) (by simpa using hv)
theorem row_flat [Inhabited α] (l : List α) : (flatK E.enc E.k l.toArray).toList = E.row l := by
  apply List.ext_getElem?
  intro t
  by_cases h : t < l.length * E.k
  · have hj : t / E.k < l.length := by rw [Nat.div_lt_iff_lt_mul E.pos]; exact h
    have h1 := get_flatK E.enc E.k l.toArray t (by simpa using h)
    have h2 : t < (flatK E.enc E.k l.toArray).size := by simpa using h
    rw [getElem!_pos _ t h2] at h1
    have hi : t % E.k < (E.enc l[t / E.k]!).length := by rw [E.len]; exact Nat.mod_lt _ E.pos
    have h3 := E.row_at l (t / E.k) (t % E.k) _ hj (List.getElem?_eq_getElem hi)
    rw [show t / E.k * E.k + t % E.k = t by rw [Nat.mul_comm]; exact Nat.div_add_mod t E.k] at h3
    have e1 : l.toArray[t / E.k]! = l[t / E.k]! := by simp
    rw [h3, List.getElem?_eq_getElem (by simpa using h), Array.getElem_toList, h1, e1, getElem!_pos (E.enc l[t / E.k]!) (t % E.k) hi]
  · rw [List.getElem?_eq_none (by simp; omega), List.getElem?_eq_none (by rw [row_len]; omega)]
theorem src_len {w : World} {A : Option Addr} {n : Nat} {l : List α} (h : Src w E.k A n (E.row l)) : l.length = n := by
  have := h.1
  rw [E.row_len] at this
  exact Nat.eq_of_mul_eq_mul_right E.pos this
/-- Elements that can be read: where they lie. -/
theorem src_at [Inhabited α] {w : World} {A : Option Addr} {n : Nat} {l : List α} (h : Src w E.k A n (E.row l)) (hn : 0 < n) : l.length = n ∧ ∃ b o, A = some ⟨b, o, none⟩ ∧ ∀ j, j < n → ∀ i v, (E.enc l[j]!)[i]? = some v → w.cell? ⟨b, o + j * E.k + i, none⟩ = some v := by
  have hl := E.src_len h
  refine ⟨hl, ?_⟩
  obtain ⟨ad, hA, hc⟩ := h.2.1 hn
  have hs : ad.spot = none := by
    have hi : 0 < (E.enc l[0]!).length := by rw [E.len]; exact E.pos
    have := spot_cell (hc _ _ (E.row_at l 0 0 _ (by omega) (List.getElem?_eq_getElem hi)))
    simpa [Addr.add] using this
  refine ⟨ad.block, ad.off, by rw [hA]; cases ad; simp_all, fun j hj i v hv => ?_⟩
  have := hc _ _ (E.row_at l j i v (by omega) hv)
  rwa [addr_row ad hs, ← Nat.add_assoc] at this
theorem src_below {w w' : World} {A : Option Addr} {m : Nat} {l : List α} (h : Src w E.k A m (E.row l)) (hb : Below w.heap.size w w') : Src w' E.k A m (E.row l) :=
  h.far fun ad hA hm => hb.block _ (src_lt h E.pos ad hA hm)
theorem src_take {w : World} {A : Option Addr} {n : Nat} {l : List α} (h : Src w E.k A n (E.row l)) (j : Nat) (hj : j ≤ n) : Src w E.k A j (E.row (l.take j)) := by
  have hl := E.src_len h
  refine ⟨by rw [E.row_len, List.length_take]; congr 1; omega, fun h0 => ?_, E.row_one _⟩
  obtain ⟨ad, ha, hx⟩ := h.2.1 (by omega)
  refine ⟨ad, ha, fun i u hi => hx i u ?_⟩
  rw [← E.row_take l j (by omega), List.getElem?_take] at hi
  split at hi
  · exact hi
  · cases hi
/-- A row of the call's own. -/
theorem holds_of_row [Inhabited α] {w : World} {B : Nat} {e : TypeId} {g o n cap : Nat} {l : List α} (h : RowQ w B e E.k (.slice (some ⟨g, o, none⟩) n cap) n (E.row l)) : l.length = n ∧ B ≤ g ∧ g < w.heap.size ∧ n ≤ cap ∧ HoldsK E.enc E.k w g o l.toArray := by
  have hl : l.length = n := by have := h.1; rw [E.row_len] at this; exact Nat.eq_of_mul_eq_mul_right E.pos this
  rcases h.2 with ⟨hv, _⟩ | ⟨g', o', cap', cur, hv, hbg, hg, hnc, hcm, hcs, ht⟩
  · injection hv with h1; cases h1
  · injection hv with hA _ hc
    injection hA with hA
    injection hA with h1 h2 _
    subst h1; subst h2; subst hc
    refine ⟨hl, hbg, (Array.getElem?_eq_some_iff.1 hg).1, hnc, fun j hj => ⟨?_, frozen_of_row w g (o + j) cur e hg⟩⟩
    rw [cell_of_row w g (o + j) cur e (0, 0) hg]
    have hj2 : j < n * E.k := by rw [size_flatK] at hj; simpa [hl] using hj
    have h1 : (E.row l)[j]? = some (flatK E.enc E.k l.toArray)[j]! := by
      rw [← E.row_flat, List.getElem?_eq_getElem (by simpa using hj), getElem!_pos _ j hj, Array.getElem_toList]
    rw [← ht, List.getElem?_take, if_pos hj2, List.getElem?_drop] at h1
    simpa using h1
theorem at_elem {w : World} {b o : Nat} {x : α} {j : Nat} (h : ∀ i v, (E.enc x)[i]? = some v → w.cell? ⟨b, o + j * E.k + i, none⟩ = some v) : ∀ i v, (E.enc x)[i]? = some v → w.cell? ((⟨b, o + j * E.k, none⟩ : Addr).add i) = some v := by
  intro i v hv
  rw [addr_row _ rfl]
  exact h i v hv
end Enc
end Go.Proofs.YtpbnigpdpkfpaaaGreatDoor
