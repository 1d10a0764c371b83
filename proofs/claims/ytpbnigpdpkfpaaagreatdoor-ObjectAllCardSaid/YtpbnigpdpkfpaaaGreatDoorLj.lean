/- The closed facts of the program that every law's row asks, one by one (in one declaration they outgrow the kernel's memory). -/
import Derived.Test.YtpbnigpdpkfpaaaGreatDoorRows
import Derived.Test.YtpbnigpdpkfpaaaGreatDoorCards
import Derived.KernelRfl
namespace Go.Proofs.YtpbnigpdpkfpaaaGreatDoor
open Go
/-- The word of the harness's sum. -/
def sumSigns : List Char := Rows.objectAllCard.stood.harness.2.toList
theorem words3 : (wordsSigns Tryz.prog.initOrder.toList).take 3 = ["harness".toList, sumSigns, "cut".toList] := by kernel_rfl
theorem sum_signs : isSumSigns sumSigns = true := by kernel_rfl
theorem me_later : Tryz.prog.laysLater = false := by kernel_rfl
theorem me_reflect : Tryz.prog.bearsReflect = false := by kernel_rfl
theorem me_door : Tryz.prog.doorFits [] = true := by kernel_rfl
theorem take3 {α : Type} {l : List α} {a b c : α} (h : l.take 3 = [a, b, c]) : ∃ tl, l = a :: b :: c :: tl := by
  match l, h with
  | x :: y :: z :: tl, h =>
    simp only [List.take_succ_cons, List.take_zero, List.cons.injEq, and_true] at h
    obtain ⟨rfl, rfl, rfl⟩ := h
    exact ⟨tl, rfl⟩
  | [], h => cases h
  | [_], h => cases h
  | [_, _], h => cases h
theorem strip_cut (tl : List (List Char)) : stripLifts liftWords ("cut".toList :: tl) = ([], "cut".toList :: tl) := by kernel_rfl
section
variable {P : Program} {s : List Char} {tl : List (List Char)} (hw : wordsSigns P.initOrder.toList = "harness".toList :: s :: "cut".toList :: tl) (hs : isSumSigns s = true)
include hw hs
theorem behind_of : behindMainWord (wordsSigns P.initOrder.toList) = "cut".toList :: tl := by
  rw [hw]
  unfold behindMainWord
  simp only [hs]
  rw [show ("harness".toList == "harness".toList) = true from by kernel_rfl]
  rfl
theorem may_of (h3 : P.laysLater = false) (h4 : P.bearsReflect = false) (h5 : P.doorFits [] = true) : P.mayEnter = true := by
  unfold Program.mayEnter
  rw [behind_of hw hs]
  simp only [strip_cut, h3, h4, h5]
  simp
theorem lifts_of : P.headLifts = [] := by
  unfold Program.headLifts
  rw [behind_of hw hs, strip_cut]
  simp
theorem final_of : P.liftsFinal = false := by
  unfold Program.liftsFinal
  rw [lifts_of hw hs, behind_of hw hs]
  simp only [List.head?_cons]
  rw [show (some "cut".toList == some "carried".toList) = false from by kernel_rfl]
  rfl
theorem make_of : P.make = some .cut := by
  unfold Program.make
  rw [behind_of hw hs]
  simp only []
  rw [show ("cut".toList == "gc".toList) = false from by kernel_rfl, show ("cut".toList == "spec".toList) = false from by kernel_rfl, show ("cut".toList == "cut".toList) = true from by kernel_rfl]
  rfl
theorem main_of : P.mainIs = some (true, s) := by
  unfold Program.mainIs
  rw [hw]
  simp only [hs]
  rw [show ("harness".toList == "harness".toList) = true from by kernel_rfl]
  rfl
end
theorem may_enter : Tryz.pinned.checked.prog.mayEnter = true := (take3 words3).elim fun _ h => may_of h sum_signs me_later me_reflect me_door
theorem lifts_final : Tryz.pinned.checked.prog.liftsFinal = false := (take3 words3).elim fun _ h => final_of h sum_signs
theorem make_is : Tryz.pinned.checked.prog.make = some .cut := (take3 words3).elim fun _ h => make_of h sum_signs
theorem main_is : Tryz.pinned.checked.prog.mainIs = some (true, sumSigns) := (take3 words3).elim fun _ h => main_of h sum_signs
theorem laid_out : laidOutB Tryz.pinned.checked.prog = true := by kernel_rfl
theorem maps_rowed : mapsRowed Tryz.pinned.checked.prog = true := by kernel_rfl
theorem stops_heard : Tryz.pinned.checked.prog.stopsHeard = true := by kernel_rfl
theorem looks_is : Tryz.pinned.checked.prog.looks [] = true := by kernel_rfl
end Go.Proofs.YtpbnigpdpkfpaaaGreatDoor
