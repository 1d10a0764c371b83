/- Rows of elements of many cells: one element stored anew; two changed about. -/
import Derived.Test.YticcianbphljpaaGreatDoorRk
import Derived.Test.YticcianbphljpaaGreatDoorP14x
namespace Go.Proofs.YticcianbphljpaaGreatDoor
open Go.RowKit
theorem below_setCells' {B : Nat} {a w : World} (h : Below B a w) (g o : Nat) (vs : List Value) (hg : B ≤ g) : Below B a (w.setCells g o vs) :=
  h.trans ⟨(setCells_os g vs o w).1, (setCells_os g vs o w).2.1, (setCells_os g vs o w).2.2, by rw [size_setCells]; exact Nat.le_refl _, fun k hk => heap_setCells_other g k (by omega) vs o w⟩
theorem mid_list (A R : List Value) (o n k j : Nat) (v : List Value) (hj : j < n) (hv : v.length = k) (hA : o + n * k ≤ A.length) (hR : (A.drop o).take (n * k) = R) :
    ((A.take (o + j * k) ++ v ++ A.drop (o + j * k + k)).drop o).take (n * k) = R.take (j * k) ++ v ++ R.drop (j * k + k) := by
  have hjk : j * k + k ≤ n * k := by
    have : (j + 1) * k ≤ n * k := Nat.mul_le_mul_right k hj
    rw [Nat.add_mul, Nat.one_mul] at this
    exact this
  have h1 : (A.take (o + j * k) ++ v ++ A.drop (o + j * k + k)).drop o = (A.drop o).take (j * k) ++ v ++ A.drop (o + j * k + k) := by
    rw [List.append_assoc, List.drop_append_of_le_length (by rw [List.length_take]; omega), List.drop_take, Nat.add_sub_cancel_left, List.append_assoc]
  have h2 : R.take (j * k) = (A.drop o).take (j * k) := by rw [← hR, List.take_take, Nat.min_eq_left (by omega)]
  have h3 : R.drop (j * k + k) = (A.drop (o + j * k + k)).take (n * k - (j * k + k)) := by
    rw [← hR, List.drop_take, List.drop_drop]
    congr 2
    omega
  have hl : ((A.drop o).take (j * k) ++ v).length = j * k + k := by
    rw [List.length_append, List.length_take, List.length_drop, hv]
    omega
  rw [h1, h2, h3, List.take_append, hl, List.take_of_length_le (by rw [hl]; omega)]
section
variable {α : Type} (E : Enc α)
theorem Enc.row_set (l : List α) (j : Nat) (hj : j < l.length) (x : α) : E.row (l.set j x) = (E.row l).take (j * E.k) ++ E.enc x ++ (E.row l).drop (j * E.k + E.k) := by
  have h1 : l.set j x = l.take j ++ x :: l.drop (j + 1) := by rw [List.set_eq_take_append_cons_drop, if_pos hj]
  have h2 : l = l.take (j + 1) ++ l.drop (j + 1) := (List.take_append_drop (j + 1) l).symm
  have h3 : (E.row l).drop (j * E.k + E.k) = E.row (l.drop (j + 1)) := by
    conv => lhs; rw [h2, E.row_append]
    have hz : (E.row (l.take (j + 1))).length = j * E.k + E.k := by rw [E.row_len, List.length_take, Nat.min_eq_left (by omega), Nat.add_mul, Nat.one_mul]
    rw [← hz, List.drop_left]
  have h4 : l.take j ++ x :: l.drop (j + 1) = (l.take j ++ [x]) ++ l.drop (j + 1) := by simp
  rw [h1, h3, E.row_take l j (by omega), h4, E.row_append, E.row_append, E.row_sing]
theorem Enc.row_there {w : World} {base : Nat} {e : TypeId} {g o n c : Nat} {l : List α} (h : RowQ w base e E.k (.slice (some ⟨g, o, none⟩) n c) n (E.row l)) (j : Nat) (hj : j < n) : w.there g (o + j * E.k) E.k := by
  obtain ⟨_, ⟨h3, _⟩ | ⟨g', o', cap, cur, hv, hb, hg, hnc, hcm, hoc, hx⟩⟩ := h
  · cases h3
  · injection hv with h1 h2 h3
    injection h1 with h1
    injection h1 with h4 h5 _
    subst h4; subst h5; subst h3
    have hjk : o + j * E.k + E.k ≤ cur.size := by
      have h6 : (j + 1) * E.k ≤ c * E.k := Nat.mul_le_mul_right _ (by omega)
      rw [Nat.add_mul, Nat.one_mul] at h6
      omega
    have hb : Blk w g e cur.toList := hg
    exact hb.there _ _ (by simpa using hjk)
theorem Enc.row_store {w : World} {base : Nat} {e : TypeId} {g o n c : Nat} {l : List α} (h : RowQ w base e E.k (.slice (some ⟨g, o, none⟩) n c) n (E.row l)) (hk : 0 < E.k) (j : Nat) (hj : j < n) (x : α) (hxl : (E.enc x).length = E.k) :
    RowQ (w.setCells g (o + j * E.k) (E.enc x)) base e E.k (.slice (some ⟨g, o, none⟩) n c) n (E.row (l.set j x)) := by
  obtain ⟨hl, ⟨h3, _⟩ | ⟨g', o', cap, cur, hv, hb, hg, hnc, hcm, hoc, hx⟩⟩ := h
  · cases h3
  · injection hv with h1 h2 h3
    injection h1 with h1
    injection h1 with h4 h5 _
    subst h4; subst h5; subst h3
    have hn : l.length = n := by
      rw [E.row_len] at hl
      exact Nat.eq_of_mul_eq_mul_right hk hl
    have hnk : n * E.k ≤ c * E.k := Nat.mul_le_mul_right _ hnc
    have hjk : (j + 1) * E.k ≤ n * E.k := Nat.mul_le_mul_right _ (by omega)
    rw [Nat.add_mul, Nat.one_mul] at hjk
    have hb2 : Blk w g e cur.toList := hg
    have hs := Blk.setCells (E.enc x) (o + j * E.k) w _ hb2 (by rw [hxl, Array.length_toList]; omega)
    rw [hxl] at hs
    refine ⟨by rw [E.row_len, List.length_set, hn], .inr ⟨g, o, c, _, rfl, hb, hs, hnc, hcm, ?_, ?_⟩⟩
    · simp only [List.size_toArray, List.length_append, List.length_take, List.length_drop, hxl, Array.length_toList]
      omega
    · rw [E.row_set l j (by omega) x]
      exact mid_list cur.toList (E.row l) o n E.k j (E.enc x) hj hxl (by rw [Array.length_toList]; omega) hx
end
/-- A row of the caller's own, whatever it holds. -/
def OwnR (w : World) (N : Nat) (e : TypeId) (k : Nat) (v : Value) (n : Nat) : Prop := ∃ xs, RowQ w N e k v n xs
theorem OwnR.below {w w' : World} {N : Nat} {e : TypeId} {k : Nat} {v : Value} {n : Nat} (h : OwnR w N e k v n) (hb : Below w.heap.size w w') : OwnR w' N e k v n := by
  obtain ⟨xs, h⟩ := h
  exact ⟨xs, h.below hb⟩
theorem OwnR.far {w : World} {N : Nat} {e : TypeId} {k : Nat} {v : Value} {n : Nat} (h : OwnR w N e k v n) : ∀ g, v.ownBlock = some g → N ≤ g ∧ g < w.heap.size := by
  obtain ⟨xs, h⟩ := h
  exact fun g hg => h.lt g hg
theorem OwnR.at {w : World} {N : Nat} {e : TypeId} {k : Nat} {A : Option Addr} {n c : Nat} (h : OwnR w N e k (.slice A n c) n) (hn : 0 < n) : n ≤ c ∧ ∃ g o, A = some ⟨g, o, none⟩ ∧ N ≤ g ∧ g < w.heap.size ∧ (∀ i, i < n * k → (∃ v, w.cell? ⟨g, o + i, none⟩ = some v) ∧ w.frozen? ⟨g, o + i, none⟩ = false) ∧
    (∀ i v, i < n * k → OwnR (w.setCell ⟨g, o + i, none⟩ v) N e k (.slice A n c) n) ∧ (∀ j, j < n → w.there g (o + j * k) k) ∧ (∀ j vs, j < n → vs.length = k → OwnR (w.setCells g (o + j * k) vs) N e k (.slice A n c) n) := by
  obtain ⟨xs, hl, ⟨h3, h4⟩ | ⟨g, o, cap, cur, hv, hb, hg, hnc, hcm, hoc, hx⟩⟩ := h
  · omega
  · injection hv with h1 h2 h3
    subst h1; subst h3
    have hb2 : Blk w g e cur.toList := hg
    have hnk : n * k ≤ c * k := Nat.mul_le_mul_right _ hnc
    have hmul : ∀ j, j < n → j * k + k ≤ n * k := fun j hj => by
      have := Nat.mul_le_mul_right k (show j + 1 ≤ n by omega)
      rw [Nat.add_mul, Nat.one_mul] at this
      exact this
    have own : ∀ (w' : World) (cs : List Value), Blk w' g e cs → cs.length = cur.size → OwnR w' N e k (.slice (some ⟨g, o, none⟩) n c) n := fun w' cs hb3 hl3 => by
      refine ⟨(cs.drop o).take (n * k), ?_, .inr ⟨g, o, c, cs.toArray, rfl, hb, hb3, hnc, hcm, by simpa [hl3] using hoc, rfl⟩⟩
      rw [List.length_take, List.length_drop, hl3]
      omega
    refine ⟨hnc, g, o, rfl, hb, hb2.lt, fun i hi => ⟨⟨_, hb2.cell (o + i) _ (List.getElem?_eq_getElem (by rw [Array.length_toList]; omega))⟩, hb2.frozen _⟩, fun i v hi => own _ _ (hb2.setCell (o + i) v) (by simp), fun j hj => hb2.there _ _ (by rw [Array.length_toList]; have := hmul j hj; omega), fun j vs hj hvs => own _ _ (Blk.setCells vs (o + j * k) w _ hb2 (by have h7 : cur.toList.length = cur.size := Array.length_toList; rw [hvs, h7]; have := hmul j hj; omega)) ?_⟩
    simp only [List.length_append, List.length_take, List.length_drop, Array.length_toList, hvs]
    have := hmul j hj
    omega
theorem OwnR.other {w : World} {N N' : Nat} {e e' : TypeId} {k k' : Nat} {v v' : Value} {n n' : Nat} (h : OwnR w N e k v n) (h' : OwnR w N' e' k' v' n') (he : e ≠ e') : ∀ g, v.ownBlock = some g → v'.ownBlock ≠ some g := by
  intro g hg hg'
  obtain ⟨xs, _, ⟨rfl, _⟩ | ⟨g1, o, cap, cur, rfl, _, h1, _⟩⟩ := h
  · cases hg
  · obtain ⟨ys, _, ⟨rfl, _⟩ | ⟨g2, o', cap', cur', rfl, _, h2, _⟩⟩ := h'
    · cases hg'
    · have e1 : g1 = g := Option.some.inj hg
      have e2 : g2 = g := Option.some.inj hg'
      subst e1
      subst e2
      rw [h1] at h2
      injection h2 with h2
      injection h2 with _ h3 _
      exact he h3
theorem OwnR.cellFar {w : World} {N : Nat} {e : TypeId} {k : Nat} {v : Value} {n : Nat} (h : OwnR w N e k v n) (p : Addr) (hp : v.ownBlock ≠ some p.block) (u : Value) : OwnR (w.setCell p u) N e k v n := by
  obtain ⟨xs, h⟩ := h
  exact ⟨xs, h.far hp u⟩
end Go.Proofs.YticcianbphljpaaGreatDoor
