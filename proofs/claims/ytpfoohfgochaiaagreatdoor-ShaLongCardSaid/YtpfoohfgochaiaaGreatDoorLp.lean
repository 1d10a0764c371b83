/- The laws' arguments, opened: rows of integers, of bytes. -/
import Derived.Test.YtpfoohfgochaiaaGreatDoorLw
import Derived.Test.YtpfoohfgochaiaaGreatDoorR
import Derived.Deep.Slices
import Derived.Test.YtpfoohfgochaiaaGreatDoorMk
namespace Go.Proofs.YtpfoohfgochaiaaGreatDoor
open Go.RowKit Go.ChangeShapes Go.WideShapes Go.ChangeAt Go.Deep
section
variable {H : Type} {enc : TypeId × Value → H} {P : Program} {w : World} {base : Nat} {spare : Nat → Bool} {held : Bool}
theorem trod_int1 {n : Nat} {e : TypeId} {k : IntKind} (he : P.underlying e = some (.int k)) {v : Value} {d : DataW H} {ps : List MemPlace} (h : DataW.trod enc P w base spare held n e [v] = some (d, ps)) : ∃ z, v = .int k z ∧ (Lit.int k z).wf = true := by
  obtain ⟨z, h1, _, h2⟩ := DataW.trod_int he h
  exact ⟨z, by simpa using h1, h2⟩
/-- A row of integers that a caller hands over. -/
theorem open_row_ints {r : Reach} {b0 : Nat} {t e : TypeId} {k : IntKind} {v : Value} {d : DataW H} {ps : List MemPlace} (ht : P.underlying t = some (.slice e)) (he : P.underlying e = some (.int k)) (hc : P.cellsOf e = 1)
    (hval : Value.okWide P w r b0 t v) (hd : DataW.Trod enc P w base spare held t v d ps) :
    ∃ A n c, ∃ zs : List Int, v = .slice A n c ∧ n ≤ c ∧ c ≤ maxLen ∧ zs.length = n ∧ Src w 1 A n (zs.map (Value.int k)) ∧ (∀ z ∈ zs, (Lit.int k z).wf = true) := by
  obtain ⟨A, n, c, rfl⟩ := okWide_slice ht hval
  obtain ⟨fuel, hf⟩ := hd
  rcases open_slice1 ht hc hf with ⟨h1, _⟩ | ⟨a, len, cap, m, q, V, D, Pl, h1, _, hl, hm, hmm, hx, hV⟩
  · have h2 : A = none ∧ n = 0 ∧ c = 0 := by simpa [Value.cells] using h1
    obtain ⟨rfl, rfl, rfl⟩ := h2
    exact ⟨none, 0, 0, [], rfl, Nat.le_refl _, by decide, rfl, ⟨rfl, fun h => by omega, fun u hu => by cases hu⟩, fun z hz => by cases hz⟩
  · have h2 : A = some a ∧ n = len ∧ c = cap := by simpa [Value.cells] using h1
    obtain ⟨rfl, rfl, rfl⟩ := h2
    have hnm : n ≤ m := by rw [hmm]; split <;> omega
    have hz : ∀ i, i < n → ∃ z, V i = .int k z ∧ (Lit.int k z).wf = true := fun i hi => trod_int1 he (hV i (by omega)).2
    obtain ⟨Z, hZ⟩ := choose_lt hz
    refine ⟨some a, n, c, (List.range n).map Z, rfl, hl, hm, by simp, ⟨by simp, fun _ => ⟨a, rfl, fun j u hj => ?_⟩, fun u hu => ?_⟩, fun z hz => ?_⟩
    · have hj' : j < n := by
        have := (List.getElem?_eq_some_iff.1 hj).1
        simpa using this
      have h3 : u = V j := by
        have : some u = some (.int k (Z j)) := by rw [← hj]; simp [hj']
        rw [Option.some.inj this, (hZ j hj').1]
      rw [h3]
      exact (hV j (by omega)).1
    · simp only [List.map_map, List.mem_map, Function.comp] at hu
      obtain ⟨i, _, rfl⟩ := hu
      rfl
    · obtain ⟨i, hi, rfl⟩ := List.mem_map.1 hz
      exact (hZ i (by simpa using hi)).2
end

theorem bytes_of (zs : List Int) (h : ∀ z ∈ zs, 0 ≤ z ∧ z < 256) : ∃ bs : List UInt8, zs.map (Value.int .u8) = Bs bs := by
  induction zs with
  | nil => exact ⟨[], rfl⟩
  | cons z zs ih =>
    obtain ⟨bs, hb⟩ := ih (fun u hu => h u (List.mem_cons_of_mem _ hu))
    obtain ⟨x, rfl⟩ := ub_of z (h z (List.mem_cons_self ..)).1 (h z (List.mem_cons_self ..)).2
    exact ⟨x :: bs, by rw [List.map_cons, hb]; rfl⟩
section
variable {H : Type} {enc : TypeId × Value → H} {P : Program} {w : World} {base : Nat} {spare : Nat → Bool} {held : Bool}
/-- A row of bytes that a caller hands over. -/
theorem open_row_bytes {r : Reach} {b0 : Nat} {t e : TypeId} {v : Value} {d : DataW H} {ps : List MemPlace} (ht : P.underlying t = some (.slice e)) (he : P.underlying e = some (.int .u8)) (hc : P.cellsOf e = 1)
    (hval : Value.okWide P w r b0 t v) (hd : DataW.Trod enc P w base spare held t v d ps) :
    ∃ A n c, ∃ bs : List UInt8, v = .slice A n c ∧ n ≤ c ∧ c ≤ maxLen ∧ Src w 1 A n (Bs bs) := by
  obtain ⟨A, n, c, zs, h1, h2, h3, _, h5, h6⟩ := open_row_ints ht he hc hval hd
  obtain ⟨bs, hb⟩ := bytes_of zs (fun z hz => by have := h6 z hz; simp [Lit.wf, IntKind.min, IntKind.max, IntKind.bits, IntKind.signed] at this; omega)
  exact ⟨A, n, c, bs, h1, h2, h3, by rw [← hb]; exact h5⟩
end
end Go.Proofs.YtpfoohfgochaiaaGreatDoor
