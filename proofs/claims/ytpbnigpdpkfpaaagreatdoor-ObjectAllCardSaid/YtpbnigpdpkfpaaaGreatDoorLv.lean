/- The laws' frame, once more: the errors' variables hold errors. -/
import Derived.Test.YtpbnigpdpkfpaaaGreatDoorLw
import Derived.Test.YtpbnigpdpkfpaaaGreatDoorP8x
import Derived.LaidLaws
namespace Go.Proofs.YtpbnigpdpkfpaaaGreatDoor
open Go.RowKit Go.ChangeShapes Go.WideShapes Go.ChangeAt
theorem iface_of_reads {P : Program} {w : World} {n nm : String} {d : DataW Unit} {g t : Nat} {ms : Array (String × TypeId)} (h : Lib.VarReads P w n (.iface nm d)) (hG : P.globalNamed n = some g) (hT : (P.globals[g]?).map (·.type) = some t)
    (hi : P.underlying t = some (.interface ms)) : ∃ ev, w.cell? ⟨g, 0, none⟩ = some ev ∧ (ev = .nilIface ∨ ∃ te pe, ev = .iface te pe) := by
  obtain ⟨g', t', cs, fuel, p, h1, h2, h3, h4⟩ := h
  obtain rfl : g' = g := Option.some.inj (h1.symm.trans hG)
  obtain rfl : t' = t := Option.some.inj (h2.symm.trans hT)
  obtain ⟨f1, u, v, hcs, _, _⟩ := iface_of_trod hi h4
  refine ⟨.iface u v, ?_, .inr ⟨u, v, rfl⟩⟩
  rw [World.var?_cell h1 h3 0]
  obtain ⟨l⟩ := cs
  simp only [] at hcs
  subst hcs
  rfl
theorem ge_of {W : World} (hL : laidMet Tryz.prog laid7 W) : Ge W :=
  ⟨iface_of_reads (g := 3) (t := 195) (Lib.laidMet.reads hL (by unfold laid7; exact .tail _ (.tail _ (.tail _ (.tail _ (.tail _ (.head _))))))) (by kernel_rfl) (by kernel_rfl) Tryz.underlying195,
   iface_of_reads (g := 4) (t := 195) (Lib.laidMet.reads hL (by unfold laid7; exact .tail _ (.tail _ (.tail _ (.tail _ (.head _)))))) (by kernel_rfl) (by kernel_rfl) Tryz.underlying195⟩
end Go.Proofs.YtpbnigpdpkfpaaaGreatDoor
