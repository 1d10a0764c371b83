/- Arrays of bytes, held against each other. -/
import Derived.Test.YtpfoohfgochaiaaGreatDoorHt
import Derived.ChangeKeysEq
namespace Go.Proofs.YtpfoohfgochaiaaGreatDoor
open Go.RowKit
theorem eqItems_ints {P : Program} (w : World) (d : Nat) (e : TypeId) (k : IntKind) (he : P.underlying e = some (.int k)) (hp : P.plainKey e = true) (xs ys : Array Value) (X Y : Nat → Int) :
    ∀ is : List Nat, (∀ i ∈ is, xs[i]? = some (.int k (X i)) ∧ ys[i]? = some (.int k (Y i))) → (Op.eqItems (d + 1) e 1 xs ys is).run P w = .ok (is.all fun i => X i == Y i) w
  | [], _ => by simp [Op.eqItems]
  | i :: is, h => by
    obtain ⟨h1, h2⟩ := h i (.head _)
    have ih := eqItems_ints w d e k he hp xs ys X Y is (fun j hj => h j (.tail _ hj))
    simp only [Op.eqItems, Sem.run_bind, Nat.mul_one, run_part_plain w hp h1, run_part_plain w hp h2, Result.andThen_ok, run_equalIn_int w d e k k (X i) (Y i) he, List.all_cons]
    cases X i == Y i
    · simp
    · simpa using ih
theorem bytes_all (a b : List UInt8) (n : Nat) (ha : a.length = n) (hb : b.length = n) : ((List.range n).all fun i => ub (gb a i) == ub (gb b i)) = decide (a = b) := by
  by_cases h : a = b
  · rw [decide_eq_true h, h]; simp
  · rw [decide_eq_false h, Bool.eq_false_iff]
    intro hall
    apply h
    apply List.ext_getElem?
    intro j
    by_cases hj : j < n
    · have := List.all_eq_true.1 hall j (by simpa using hj)
      have h2 : gb a j = gb b j := ub_inj (by simpa using this)
      unfold gb at h2
      rw [List.getD_eq_getElem?_getD, List.getD_eq_getElem?_getD] at h2
      rw [List.getElem?_eq_getElem (by omega), List.getElem?_eq_getElem (by omega)] at h2 ⊢
      simpa using h2
    · rw [List.getElem?_eq_none (by omega), List.getElem?_eq_none (by omega)]
theorem eqIn_bytes (w : World) (t : TypeId) (ht : Tryz.prog.underlying t = some (.array 32 5)) (a b : List UInt8) (ha : a.length = 32) (hb : b.length = 32) :
    (Op.equalIn 10000 t (.agg (Bs a).toArray) (.agg (Bs b).toArray)).run Tryz.prog w = .ok (decide (a = b)) w := by
  obtain ⟨i, hi, hc⟩ : ∃ i, Tryz.prog.info? 5 = some i ∧ Tryz.prog.cellsOf 5 = 1 := by
    cases h : Tryz.prog.info? 5 with
    | none => have := Tryz.info5; rw [h] at this; cases this
    | some i => exact ⟨i, rfl, by kernel_rfl⟩
  rw [run_equalIn_array w 9999 _ _ ht hi, hc, eqItems_ints w 9998 5 .u8 (by kernel_rfl) (by kernel_rfl) _ _ (fun i => ub (gb a i)) (fun i => ub (gb b i)) _ (fun i hi => by
    have hi' : i < 32 := by simpa using hi
    exact ⟨by simpa using Bs_at a i (by omega), by simpa using Bs_at b i (by omega)⟩), bytes_all a b 32 ha hb]
end Go.Proofs.YtpfoohfgochaiaaGreatDoor
