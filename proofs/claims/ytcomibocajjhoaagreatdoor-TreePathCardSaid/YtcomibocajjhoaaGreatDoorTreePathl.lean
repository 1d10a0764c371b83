/- TreePath: the row's step and the card. -/
import Derived.Test.YtcomibocajjhoaaGreatDoorLw
import Derived.Test.YtcomibocajjhoaaGreatDoorLj
import Derived.Test.YtcomibocajjhoaaGreatDoorTv
import Derived.Test.YtcomibocajjhoaaGreatDoorLv
namespace Go.Proofs.YtcomibocajjhoaaGreatDoor.treePath
open Go.ChangeShapes Go.WideShapes Go.ChangeAt Go.RowKit
set_option linter.unusedVariables false
set_option maxRecDepth 100000 in
theorem lifted (os : Os) (started : os.Started) (H : Type) (enc : TypeId × Value → H) :
    ReturnsInHanded {} Tryz.checked os 7 .any (fun w args => (Rows.treePathSpec.pre enc Tryz.prog Tryz.f7 [] false w args ∧ laidMetH Tryz.prog laid7 w) ∧ sizedMet enc Tryz.prog Tryz.f7 (OpenSpec.ofChange Rows.treePathSpec) false w args) (Rows.treePathSpec.post enc Tryz.prog Tryz.f7 false true false false) := by
  refine returnsInHanded_law (C := Tryz.checked) (X := fun w _ => laidMetH Tryz.prog laid7 w) (fun _ _ _ hh h => h.of_heap hh) own started (by kernel_rfl) Tryz.func7
    (ChangeSpec.witness_shaped (enc := enc) (C := Tryz.checked) (os := os) (X := fun w _ => laidMetH Tryz.prog laid7 w) false (World.laidAll Tryz.prog os laid7) #[.slice none 0 0] 8 (World.laidAll_os _ _ _)
      (World.shaped_of_ZipB (by kernel_rfl) (by kernel_rfl)) (by kernel_rfl) (by kernel_rfl) (by kernel_rfl)
      (by rw [MakeChecks.laidMetH_plain _ _ _ (by kernel_rfl)]; exact laidMet_laidAll _ (by kernel_rfl) (by kernel_rfl))) ?_
  intro W base args ds gs before hval0 hW hZ hL hS
  have hval : ∀ (j : Nat) t v, Tryz.f7.params[j]? = some t → args[j]? = some v → Value.okWide Tryz.prog W .any base t v := hval0
  have hW' := hW
  obtain ⟨p, q, hA0, hV, rfl, _, _⟩ := hW
  have hA : DataW.TrodAll enc Tryz.prog W 0 (fun _ => true) true Tryz.f7.params.toList args.toList ds p := hA0
  have hlt : ∀ x ∈ p ++ q, x.block < W.heap.size := fun x hx => hW'.lt x hx
  rw [Tryz.params7] at hA hval
  have hAk := hA
  obtain ⟨v0, vs0, d0, ds0, p0, q0, hargs, rfl, rfl, h0, r0⟩ := trodAll_cons hA
  obtain ⟨rfl, rfl, rfl⟩ := trodAll_nil r0
  obtain rfl : args = #[v0] := by cases args; simp_all
  obtain ⟨rfl, rfl⟩ := trodVars_none hV
  have o0 := hval 0 50 v0 rfl rfl
  obtain ⟨A0, n0, c0, t0, rfl, k0, m0, s0⟩ := open_row_strs Tryz.underlying50 (by kernel_rfl) (by kernel_rfl) o0 h0
  rw [MakeChecks.laidMetH_plain _ _ _ (by kernel_rfl)] at hL
  have hG : Gl W := gl_of hL hS
  refine (treePathLaw_any W A0 n0 c0 t0 s0 k0 hG (ge_of hL)).mono fun e W' ⟨he, hb⟩ => ?_
  subst he
  exact ⟨_, rfl, _, _, _, [], _, [], hW', (trodAll_cons_mk (shut_bool Tryz.underlying4 _) trodAll_mk0), below_trodAll laid_out (by kernel_rfl) hAk hb (fun x hx => hlt x (List.mem_append_left _ hx)), rfl, hb.frame _, fun h => by cases h⟩
theorem in_place : (Rows.treePathRow.inPlace == Tryz.pinned.checked.prog.inPlace 7) = true := by kernel_rfl
theorem unfollowed_is : (Rows.treePathRow.unfollowed == Tryz.pinned.checked.prog.unfollowed 7) = true := by kernel_rfl
theorem recurses_is : (Rows.treePathRow.recurses == Tryz.pinned.checked.prog.recurses 7) = true := by kernel_rfl
theorem vars_named : (Rows.treePathRow.named == Tryz.pinned.checked.prog.varsNamed 7) = true := by kernel_rfl
theorem func_named : Tryz.pinned.checked.prog.funcNamed "colporteur/colporteurlaw6.TreePath" = some 7 := by kernel_rfl
theorem wf_text : Rows.treePathRow.wfByText (OpenSpec.ofChange Rows.treePathSpec) = true := by kernel_rfl
theorem goes_is : false = Rows.treePathRow.goesBy Tryz.pinned.checked.prog := by kernel_rfl
theorem joined : joinedFacts Tryz.pinned.checked.prog 7 Tryz.f7 Rows.treePathSpec Rows.treePathRow = true := by
  unfold joinedFacts
  simp only [Bool.and_eq_true]
  and_intros
  all_goals first
    | with_reducible exact in_place | with_reducible exact unfollowed_is | with_reducible exact recurses_is | with_reducible exact vars_named
    | with_reducible exact may_enter | with_reducible exact laid_out | with_reducible exact maps_rowed | with_reducible exact stops_heard
    | (rw [lifts_final]; kernel_rfl) | (rw [make_is]; kernel_rfl) | (as_aux_lemma => kernel_rfl)
theorem wrapper_is : Tryz.f7.isWrapper Tryz.pinned.checked.prog Rows.treePathRow.wrapper Rows.treePathRow.mainSum := by
  unfold Func.isWrapper; first | (rw [if_pos (by decide +kernel)]; kernel_rfl) | (rw [if_neg (by decide +kernel)]; exact ⟨rfl, rfl⟩)
theorem instance_is : Tryz.f7.isInstance Tryz.pinned.checked.prog Rows.treePathRow.origin Rows.treePathRow.targs := of_decide_eq_true (by kernel_rfl)
theorem holds : Rows.treePathRow.holds Tryz.pinned (OpenSpec.ofChange Rows.treePathSpec) :=
  OpenClaim.holds_of_wide 7 Tryz.f7 rfl rfl rfl rfl rfl rfl rfl ⟨rfl, rfl, rfl, rfl, rfl⟩ rfl rfl rfl rfl rfl func_named Tryz.func7 joined instance_is wrapper_is
    (fun os started H enc _ => lifted os started H enc)
theorem no_stand_in : (Tryz.f7.params.toList.all fun u => !Tryz.prog.wantsStandIn u) = true := by kernel_rfl
theorem proved : Rows.TreePathCardSaid :=
  Claim7.holds_tied_plain_at .later [] [.data, .data, .data, .data, .sentinel, .sentinel, .pinned] true (true, "ac5fe40ee6f77f900bf86530e320d2a323af30f12feac56d339f047fdc2beba2") true holds (fun _ h => by cases h) wf_text (fun _ h => by cases h) treePath_row_tie rfl ⟨rfl, rfl⟩ (main_is.trans (by kernel_rfl)) rfl
    (fun f fn hf hfn => by
      obtain rfl : f = 7 := Option.some.inj (func_named.symm.trans hf) |>.symm
      obtain rfl : fn = Tryz.f7 := (Option.some.inj (Tryz.func7.symm.trans hfn)).symm
      exact ⟨looks_is.symm, fun j t ht => by
        have hm : t ∈ Tryz.f7.params.toList := by simpa using Array.mem_of_getElem? ht
        exact (show Tryz.prog.wantsStandIn t = false by simpa using List.all_eq_true.1 no_stand_in t hm)⟩)
    goes_is
#print axioms proved
end Go.Proofs.YtcomibocajjhoaaGreatDoor.treePath
