/- The laws' arguments, opened: a row of names. -/
import Derived.Test.YtcomibocajjhoaaGreatDoorLp
import Derived.Test.YtcomibocajjhoaaGreatDoorOr
namespace Go.Proofs.YtcomibocajjhoaaGreatDoor
open Go.RowKit Go.ChangeShapes Go.WideShapes Go.ChangeAt Go.Deep
section
variable {H : Type} {enc : TypeId × Value → H} {P : Program} {w : World} {base : Nat} {spare : Nat → Bool} {held : Bool}
theorem name_of_trod {t e : TypeId} {n : Nat} {cs : List Value} {x : DataW H × List MemPlace} {fuel : Nat} (ht : P.underlying t = some (.array n e)) (he : P.underlying e = some (.int .u8)) (hc : P.cellsOf e = 1) (hn : P.cellsOf t = n)
    (hf : DataW.trod enc P w base spare held fuel t cs = some x) : ∃ l : List UInt8, cs = Bs l ∧ l.length = n := by
  obtain ⟨d, ps⟩ := x
  obtain ⟨xs, m, rfl, _, hl, hx, hi⟩ := DataW.trod_array ht hf
  rw [hc] at hi
  have hl2 : cs.length = n := by simpa [hn] using hl
  have hz : ∀ i, i < n → ∃ z, cs[i]? = some (.int .u8 z) ∧ (Lit.int .u8 z).wf = true := fun i h => by
    have h1 := hi i h
    have h2 : i < cs.length := by omega
    have h3 : ((cs.drop (i * 1)).take 1) = [cs[i]] := by
      rw [Nat.mul_one, List.drop_eq_getElem_cons h2]
      rfl
    rw [h3, List.getElem?_eq_getElem (by omega : i < xs.length)] at h1
    obtain ⟨z, h4, h5⟩ := trod_int1 he (d := (xs[i]'(by omega)).1) (ps := (xs[i]'(by omega)).2) h1
    exact ⟨z, by rw [List.getElem?_eq_getElem h2, h4], h5⟩
  obtain ⟨Z, hZ⟩ := choose_lt hz
  have h6 : cs = ((List.range n).map Z).map (Value.int .u8) := by
    apply List.ext_getElem?
    intro i
    by_cases h : i < n
    · rw [(hZ i h).1]
      simp [h]
    · rw [List.getElem?_eq_none (by omega), List.getElem?_eq_none (by simp; omega)]
  obtain ⟨l, hl3⟩ := bytes_of ((List.range n).map Z) (fun z h => by
    obtain ⟨i, h7, rfl⟩ := List.mem_map.1 h
    have := (hZ i (by simpa using h7)).2
    simp [Lit.wf, IntKind.min, IntKind.max, IntKind.bits, IntKind.signed] at this
    omega)
  rw [hl3] at h6
  exact ⟨l, h6, by rw [h6] at hl2; simpa [Bs] using hl2⟩
/-- A row of names that a caller hands over. -/
theorem open_row_ids {r : Reach} {b0 : Nat} {t e e8 : TypeId} {v : Value} {d : DataW H} {ps : List MemPlace} (ht : P.underlying t = some (.slice e)) (he : P.underlying e = some (.array 32 e8)) (h8 : P.underlying e8 = some (.int .u8)) (hc8 : P.cellsOf e8 = 1) (hc : P.cellsOf e = 32)
    (hval : Value.okWide P w r b0 t v) (hd : DataW.Trod enc P w base spare held t v d ps) :
    ∃ A n c, ∃ l : List Idt, v = .slice A n c ∧ n ≤ c ∧ c ≤ maxLen ∧ Src w 32 A n (rowI l) := by
  obtain ⟨A, n, c, rfl⟩ := okWide_slice ht hval
  obtain ⟨fuel, hf⟩ := hd
  rcases open_slice ht hf with ⟨h1, _⟩ | ⟨a, len, cap, m, q, D, Pl, h1, _, hl, hm, hmm, hx, hV⟩
  · have h2 : A = none ∧ n = 0 ∧ c = 0 := by simpa [Value.cells] using h1
    obtain ⟨rfl, rfl, rfl⟩ := h2
    exact ⟨none, 0, 0, [], rfl, Nat.le_refl _, by decide, ⟨rfl, fun h => by omega, fun u hu => by cases hu⟩⟩
  · have h2 : A = some a ∧ n = len ∧ c = cap := by simpa [Value.cells] using h1
    obtain ⟨rfl, rfl, rfl⟩ := h2
    have hnm : n ≤ m := by rw [hmm]; split <;> omega
    rw [hc] at hV
    have hz : ∀ i, i < n → ∃ x : Idt, ∀ j, j < 32 → w.cell? ((a.add (i * 32)).add j) = (encI x)[j]? := fun i hi => by
      obtain ⟨cs, h3, h4⟩ := hV i (by omega)
      obtain ⟨_, _, h5⟩ := World.cells?_some h3
      obtain ⟨l, rfl, h6⟩ := name_of_trod he h8 hc8 hc h4
      exact ⟨⟨l, h6⟩, h5⟩
    obtain ⟨X, hX⟩ := choose_lt hz
    have hll : ((List.range n).map X).length = n := by simp
    refine ⟨some a, n, c, (List.range n).map X, rfl, hl, hm, ⟨by rw [rowI_len, hll], fun _ => ⟨a, rfl, fun t u hu => ?_⟩, rowI_one _⟩⟩
    have ht2 : t < n * 32 := by
      have := (List.getElem?_eq_some_iff.1 hu).1
      rwa [rowI_len, hll] at this
    have h3 := hX (t / 32) (by omega) (t % 32) (by omega)
    have ha : (a.add (t / 32 * 32)).add (t % 32) = a.add t := by
      have e : t / 32 * 32 + t % 32 = t := by omega
      unfold Addr.add
      by_cases h1 : t / 32 * 32 = 0
      · rw [if_pos h1, show t % 32 = t by omega]
      · by_cases h2 : t % 32 = 0
        · simp [h2, show t ≠ 0 by omega, show t / 32 * 32 = t by omega]
        · simp [h1, h2, show t ≠ 0 by omega, Nat.add_assoc, e]
    rw [ha] at h3
    have hi : t % 32 < (encI (X (t / 32))).length := by rw [encI_len]; omega
    have ej : ((List.range n).map X)[t / 32]! = X (t / 32) := by
      have hlt : t / 32 < ((List.range n).map X).length := by rw [hll]; omega
      rw [getElem!_pos ((List.range n).map X) (t / 32) hlt]
      simp
    have h4 := rowI_at ((List.range n).map X) (t / 32) (t % 32) (encI (X (t / 32)))[t % 32] (by rw [hll]; omega) (by rw [ej]; exact List.getElem?_eq_getElem hi)
    rw [show t / 32 * 32 + t % 32 = t by omega, hu] at h4
    rw [h3, List.getElem?_eq_getElem hi, h4]
end
end Go.Proofs.YtcomibocajjhoaaGreatDoor
