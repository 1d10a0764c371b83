/- The laws' arguments, opened: rows of integers, of bytes. The laws' arguments, opened: a name (32 bytes). -/
import Derived.Test.YticcianbphljpaaGreatDoorLw
import Derived.Test.YticcianbphljpaaGreatDoorP1x
import Derived.Deep.Slices
import Derived.Test.YticcianbphljpaaGreatDoorP5x
import Derived.OpenShut
namespace Go.Proofs.YticcianbphljpaaGreatDoor
open Go.RowKit Go.ChangeShapes Go.WideShapes Go.ChangeAt Go.Deep
section
variable {H : Type} {enc : TypeId × Value → H} {P : Program} {w : World} {base : Nat} {spare : Nat → Bool} {held : Bool}
theorem trod_int1 {n : Nat} {e : TypeId} {k : IntKind} (he : P.underlying e = some (.int k)) {v : Value} {d : DataW H} {ps : List MemPlace} (h : DataW.trod enc P w base spare held n e [v] = some (d, ps)) : ∃ z, v = .int k z ∧ (Lit.int k z).wf = true := by
  obtain ⟨z, h1, _, h2⟩ := DataW.trod_int he h
  exact ⟨z, by simpa using h1, h2⟩
/-- A row of integers that a caller hands over. -/
theorem open_row_ints {r : Reach} {b0 : Nat} {t e : TypeId} {k : IntKind} {v : Value} {d : DataW H} {ps : List MemPlace} (ht : P.underlying t = some (.slice e)) (he : P.underlying e = some (.int k)) (hc : P.cellsOf e = 1)
    (hval : Value.okWide P w r b0 t v) (hd : DataW.Trod enc P w base spare held t v d ps) :
    ∃ A n c, ∃ zs : List Int, v = .slice A n c ∧ n ≤ c ∧ c ≤ maxLen ∧ zs.length = n ∧ Src w 1 A n (zs.map (Value.int k)) ∧ (∀ z ∈ zs, (Lit.int k z).wf = true) := by
  obtain ⟨A, n, c, rfl⟩ := okWide_slice ht hval
  obtain ⟨fuel, hf⟩ := hd
  rcases open_slice1 ht hc hf with ⟨h1, _⟩ | ⟨a, len, cap, m, q, V, D, Pl, h1, _, hl, hm, hmm, hx, hV⟩
  · have h2 : A = none ∧ n = 0 ∧ c = 0 := by simpa [Value.cells] using h1
    obtain ⟨rfl, rfl, rfl⟩ := h2
    exact ⟨none, 0, 0, [], rfl, Nat.le_refl _, by decide, rfl, ⟨rfl, fun h => by omega, fun u hu => by cases hu⟩, fun z hz => by cases hz⟩
  · have h2 : A = some a ∧ n = len ∧ c = cap := by simpa [Value.cells] using h1
    obtain ⟨rfl, rfl, rfl⟩ := h2
    have hnm : n ≤ m := by rw [hmm]; split <;> omega
    have hz : ∀ i, i < n → ∃ z, V i = .int k z ∧ (Lit.int k z).wf = true := fun i hi => trod_int1 he (hV i (by omega)).2
    obtain ⟨Z, hZ⟩ := choose_lt hz
    refine ⟨some a, n, c, (List.range n).map Z, rfl, hl, hm, by simp, ⟨by simp, fun _ => ⟨a, rfl, fun j u hj => ?_⟩, fun u hu => ?_⟩, fun z hz => ?_⟩
    · have hj' : j < n := by
        have := (List.getElem?_eq_some_iff.1 hj).1
        simpa using this
      have h3 : u = V j := by
        have : some u = some (.int k (Z j)) := by rw [← hj]; simp [hj']
        rw [Option.some.inj this, (hZ j hj').1]
      rw [h3]
      exact (hV j (by omega)).1
    · simp only [List.map_map, List.mem_map, Function.comp] at hu
      obtain ⟨i, _, rfl⟩ := hu
      rfl
    · obtain ⟨i, hi, rfl⟩ := List.mem_map.1 hz
      exact (hZ i (by simpa using hi)).2
end

theorem bytes_of (zs : List Int) (h : ∀ z ∈ zs, 0 ≤ z ∧ z < 256) : ∃ bs : List UInt8, zs.map (Value.int .u8) = Bs bs := by
  induction zs with
  | nil => exact ⟨[], rfl⟩
  | cons z zs ih =>
    obtain ⟨bs, hb⟩ := ih (fun u hu => h u (List.mem_cons_of_mem _ hu))
    obtain ⟨x, rfl⟩ := ub_of z (h z (List.mem_cons_self ..)).1 (h z (List.mem_cons_self ..)).2
    exact ⟨x :: bs, by rw [List.map_cons, hb]; rfl⟩
section
variable {H : Type} {enc : TypeId × Value → H} {P : Program} {w : World} {base : Nat} {spare : Nat → Bool} {held : Bool}
/-- A row of bytes that a caller hands over. -/
theorem open_row_bytes {r : Reach} {b0 : Nat} {t e : TypeId} {v : Value} {d : DataW H} {ps : List MemPlace} (ht : P.underlying t = some (.slice e)) (he : P.underlying e = some (.int .u8)) (hc : P.cellsOf e = 1)
    (hval : Value.okWide P w r b0 t v) (hd : DataW.Trod enc P w base spare held t v d ps) :
    ∃ A n c, ∃ bs : List UInt8, v = .slice A n c ∧ n ≤ c ∧ c ≤ maxLen ∧ Src w 1 A n (Bs bs) := by
  obtain ⟨A, n, c, zs, h1, h2, h3, _, h5, h6⟩ := open_row_ints ht he hc hval hd
  obtain ⟨bs, hb⟩ := bytes_of zs (fun z hz => by have := h6 z hz; simp [Lit.wf, IntKind.min, IntKind.max, IntKind.bits, IntKind.signed] at this; omega)
  exact ⟨A, n, c, bs, h1, h2, h3, by rw [← hb]; exact h5⟩
end
end Go.Proofs.YticcianbphljpaaGreatDoor
namespace Go.Proofs.YticcianbphljpaaGreatDoor
open Go.RowKit Go.ChangeShapes Go.WideShapes Go.ChangeAt Go.Deep
section
variable {H : Type} {enc : TypeId × Value → H} {P : Program} {w : World} {base : Nat} {spare : Nat → Bool} {held : Bool}
/-- Thirty-two bytes that a caller hands over. -/
theorem open_id {r : Reach} {b0 : Nat} {t e : TypeId} {n : Nat} {v : Value} {d : DataW H} {ps : List MemPlace} (ht : P.underlying t = some (.array n e)) (he : P.underlying e = some (.int .u8)) (hc : P.cellsOf e = 1) (hn : P.cellsOf t = n)
    (hval : Value.okWide P w r b0 t v) (hd : DataW.Trod enc P w base spare held t v d ps) :
    ∃ l : List UInt8, v = .agg (Bs l).toArray ∧ l.length = n := by
  unfold Value.okWide at hval
  simp only [ht] at hval
  obtain ⟨cs, rfl, hz, _⟩ := hval
  obtain ⟨fuel, hf⟩ := hd
  obtain ⟨xs, m, rfl, _, hl, hx, hi⟩ := DataW.trod_array ht hf
  rw [hc] at hi
  have hl2 : cs.toList.length = n := by simpa [Value.cells, hn] using hl
  have hz : ∀ i, i < n → ∃ z, cs.toList[i]? = some (.int .u8 z) ∧ (Lit.int .u8 z).wf = true := fun i h => by
    have h1 := hi i h
    have h2 : i < cs.toList.length := by omega
    have h3 : ((cs.toList.drop (i * 1)).take 1) = [cs.toList[i]] := by
      rw [Nat.mul_one, List.drop_eq_getElem_cons h2]
      rfl
    rw [show (Value.agg cs).cells.toList = cs.toList from rfl, h3, List.getElem?_eq_getElem (by omega : i < xs.length)] at h1
    obtain ⟨z, h4, h5⟩ := trod_int1 he (d := (xs[i]'(by omega)).1) (ps := (xs[i]'(by omega)).2) h1
    exact ⟨z, by rw [List.getElem?_eq_getElem h2, h4], h5⟩
  obtain ⟨Z, hZ⟩ := choose_lt hz
  have h6 : cs.toList = ((List.range n).map Z).map (Value.int .u8) := by
    apply List.ext_getElem?
    intro i
    by_cases h : i < n
    · rw [(hZ i h).1]
      simp [h]
    · rw [List.getElem?_eq_none (by omega), List.getElem?_eq_none (by simp; omega)]
  obtain ⟨l, hl3⟩ := bytes_of ((List.range n).map Z) (fun z h => by
    obtain ⟨i, h7, rfl⟩ := List.mem_map.1 h
    have := (hZ i (by simpa using h7)).2
    simp [Lit.wf, IntKind.min, IntKind.max, IntKind.bits, IntKind.signed] at this
    omega)
  rw [hl3] at h6
  exact ⟨l, by rw [← h6], by rw [h6] at hl2; simpa [Bs] using hl2⟩
end
end Go.Proofs.YticcianbphljpaaGreatDoor
