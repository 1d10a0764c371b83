/- The laws' arguments, opened: rows of bytes. -/
import Derived.Test.YtpfoohfgochaiaaGreatDoorLo
import Derived.Test.YtpfoohfgochaiaaGreatDoorMk
namespace Go.Proofs.YtpfoohfgochaiaaGreatDoor
open Go.RowKit Go.ChangeShapes Go.WideShapes Go.ChangeAt Go.Deep
theorem bytes_of (zs : List Int) (h : ∀ z ∈ zs, 0 ≤ z ∧ z < 256) : ∃ bs : List UInt8, zs.map (Value.int .u8) = Bs bs := by
  induction zs with
  | nil => exact ⟨[], rfl⟩
  | cons z zs ih =>
    obtain ⟨bs, hb⟩ := ih (fun u hu => h u (List.mem_cons_of_mem _ hu))
    obtain ⟨x, rfl⟩ := ub_of z (h z (List.mem_cons_self ..)).1 (h z (List.mem_cons_self ..)).2
    exact ⟨x :: bs, by rw [List.map_cons, hb]; rfl⟩
section
variable {H : Type} {enc : TypeId × Value → H} {P : Program} {w : World} {base : Nat} {spare : Nat → Bool} {held : Bool}
/-- A row of bytes that a caller hands over. -/
theorem open_row_bytes {r : Reach} {b0 : Nat} {t e : TypeId} {v : Value} {d : DataW H} {ps : List MemPlace} (ht : P.underlying t = some (.slice e)) (he : P.underlying e = some (.int .u8)) (hc : P.cellsOf e = 1)
    (hval : Value.okWide P w r b0 t v) (hd : DataW.Trod enc P w base spare held t v d ps) :
    ∃ A n c, ∃ bs : List UInt8, v = .slice A n c ∧ n ≤ c ∧ c ≤ maxLen ∧ Src w 1 A n (Bs bs) := by
  obtain ⟨A, n, c, zs, h1, h2, h3, _, h5, h6⟩ := open_row_ints ht he hc hval hd
  obtain ⟨bs, hb⟩ := bytes_of zs (fun z hz => by have := h6 z hz; simp [Lit.wf, IntKind.min, IntKind.max, IntKind.bits, IntKind.signed] at this; omega)
  exact ⟨A, n, c, bs, h1, h2, h3, by rw [← hb]; exact h5⟩
end
end Go.Proofs.YtpfoohfgochaiaaGreatDoor
