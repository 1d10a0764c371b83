/- The laws' arguments, opened: rows of integers, of bytes. The laws' arguments, opened: a name (32 bytes). -/
import Derived.Test.YtpbnigpdpkfpaaaGreatDoorLw
import Derived.Test.YtpbnigpdpkfpaaaGreatDoorP1x
import Derived.Deep.Slices
import Derived.Test.YtpbnigpdpkfpaaaGreatDoorP5x
import Derived.OpenShut
namespace Go.Proofs.YtpbnigpdpkfpaaaGreatDoor
open Go.RowKit Go.ChangeShapes Go.WideShapes Go.ChangeAt Go.Deep
section
variable {H : Type} {enc : TypeId × Value → H} {P : Program} {w : World} {base : Nat} {spare : Nat → Bool} {held : Bool}
theorem trod_int1 {n : Nat} {e : TypeId} {k : IntKind} (he : P.underlying e = some (.int k)) {v : Value} {d : DataW H} {ps : List MemPlace} (h : DataW.trod enc P w base spare held n e [v] = some (d, ps)) : ∃ z, v = .int k z ∧ (Lit.int k z).wf = true := by
  obtain ⟨z, h1, _, h2⟩ := DataW.trod_int he h
  exact ⟨z, by simpa using h1, h2⟩
end

theorem bytes_of (zs : List Int) (h : ∀ z ∈ zs, 0 ≤ z ∧ z < 256) : ∃ bs : List UInt8, zs.map (Value.int .u8) = Bs bs := by
  induction zs with
  | nil => exact ⟨[], rfl⟩
  | cons z zs ih =>
    obtain ⟨bs, hb⟩ := ih (fun u hu => h u (List.mem_cons_of_mem _ hu))
    obtain ⟨x, rfl⟩ := ub_of z (h z (List.mem_cons_self ..)).1 (h z (List.mem_cons_self ..)).2
    exact ⟨x :: bs, by rw [List.map_cons, hb]; rfl⟩
section
variable {H : Type} {enc : TypeId × Value → H} {P : Program} {w : World} {base : Nat} {spare : Nat → Bool} {held : Bool}
end
end Go.Proofs.YtpbnigpdpkfpaaaGreatDoor
namespace Go.Proofs.YtpbnigpdpkfpaaaGreatDoor
open Go.RowKit Go.ChangeShapes Go.WideShapes Go.ChangeAt Go.Deep
section
variable {H : Type} {enc : TypeId × Value → H} {P : Program} {w : World} {base : Nat} {spare : Nat → Bool} {held : Bool}
end
end Go.Proofs.YtpbnigpdpkfpaaaGreatDoor
