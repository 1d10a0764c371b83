/- ObjectBig: the row's step and the card. -/
import Derived.Test.YticcianbphljpaaGreatDoorLw
import Derived.Test.YticcianbphljpaaGreatDoorLj
import Derived.Test.YticcianbphljpaaGreatDoorOg
import Derived.Test.YticcianbphljpaaGreatDoorLv
namespace Go.Proofs.YticcianbphljpaaGreatDoor.objectBig
open Go.ChangeShapes Go.WideShapes Go.ChangeAt Go.RowKit
set_option linter.unusedVariables false
set_option maxRecDepth 100000 in
theorem lifted (os : Os) (started : os.Started) (H : Type) (enc : TypeId × Value → H) :
    ReturnsInHanded {} Tryz.checked os 8 .any (fun w args => (Rows.objectBigSpec.pre enc Tryz.prog Tryz.f8 [] false w args ∧ laidMetH Tryz.prog laid7 w) ∧ sizedMet enc Tryz.prog Tryz.f8 (OpenSpec.ofChange Rows.objectBigSpec) false w args) (Rows.objectBigSpec.post enc Tryz.prog Tryz.f8 false true false false) := by
  refine returnsInHanded_law (C := Tryz.checked) (X := fun w _ => laidMetH Tryz.prog laid7 w) (fun _ _ _ hh h => h.of_heap hh) own started (by kernel_rfl) Tryz.func8
    (ChangeSpec.witness_shaped (enc := enc) (C := Tryz.checked) (os := os) (X := fun w _ => laidMetH Tryz.prog laid7 w) false (World.laidAll Tryz.prog os laid7) #[.int .i64 0, .int .u8 0] 8 (World.laidAll_os _ _ _)
      (World.shaped_of_ZipB (by kernel_rfl) (by kernel_rfl)) (by kernel_rfl) (by kernel_rfl) (by kernel_rfl)
      (by rw [MakeChecks.laidMetH_plain _ _ _ (by kernel_rfl)]; exact laidMet_laidAll _ (by kernel_rfl) (by kernel_rfl))) ?_
  intro W base args ds gs before hval0 hW hZ hL hS
  have hval : ∀ (j : Nat) t v, Tryz.f8.params[j]? = some t → args[j]? = some v → Value.okWide Tryz.prog W .any base t v := hval0
  have hW' := hW
  obtain ⟨p, q, hA0, hV, rfl, _, _⟩ := hW
  have hA : DataW.TrodAll enc Tryz.prog W 0 (fun _ => true) true Tryz.f8.params.toList args.toList ds p := hA0
  have hlt : ∀ x ∈ p ++ q, x.block < W.heap.size := fun x hx => hW'.lt x hx
  rw [Tryz.params8] at hA hval
  have hAk := hA
  obtain ⟨v0, vs0, d0, ds0, p0, q0, hargs, rfl, rfl, h0, r0⟩ := trodAll_cons hA
  obtain ⟨v1, vs1, d1, ds1, p1, q1, rfl, rfl, rfl, h1, r1⟩ := trodAll_cons r0
  obtain ⟨rfl, rfl, rfl⟩ := trodAll_nil r1
  obtain rfl : args = #[v0, v1] := by cases args; simp_all
  obtain ⟨rfl, rfl⟩ := trodVars_none hV
  have o0 := hval 0 3 v0 rfl rfl
  have o1 := hval 1 5 v1 rfl rfl
  obtain ⟨a0, rfl, rfl, rfl, w0⟩ := open_int Tryz.underlying3 o0 h0
  obtain ⟨a1, rfl, rfl, rfl, w1⟩ := open_int Tryz.underlying5 o1 h1
  rw [MakeChecks.laidMetH_plain _ _ _ (by kernel_rfl)] at hL
  have hG : Gl W := gl_of hL hS
  refine (objectBigLaw_any W a0 a1 (by have := w1; simp [Lit.wf, IntKind.min, IntKind.max, IntKind.bits, IntKind.signed] at this; omega) (by have := w1; simp [Lit.wf, IntKind.min, IntKind.max, IntKind.bits, IntKind.signed] at this; omega) hG (ge_of hL)).mono fun e W' ⟨he, hb⟩ => ?_
  subst he
  exact ⟨_, rfl, _, _, _, [], _, [], hW', (trodAll_cons_mk (shut_bool Tryz.underlying4 _) trodAll_mk0), below_trodAll laid_out (by kernel_rfl) hAk hb (fun x hx => hlt x (List.mem_append_left _ hx)), rfl, hb.frame _, fun h => by cases h⟩
theorem in_place : (Rows.objectBigRow.inPlace == Tryz.pinned.checked.prog.inPlace 8) = true := by kernel_rfl
theorem unfollowed_is : (Rows.objectBigRow.unfollowed == Tryz.pinned.checked.prog.unfollowed 8) = true := by kernel_rfl
theorem recurses_is : (Rows.objectBigRow.recurses == Tryz.pinned.checked.prog.recurses 8) = true := by kernel_rfl
theorem vars_named : (Rows.objectBigRow.named == Tryz.pinned.checked.prog.varsNamed 8) = true := by kernel_rfl
theorem func_named : Tryz.pinned.checked.prog.funcNamed "colporteur/colporteurlaw6.ObjectBig" = some 8 := by kernel_rfl
theorem wf_text : Rows.objectBigRow.wfByText (OpenSpec.ofChange Rows.objectBigSpec) = true := by kernel_rfl
theorem goes_is : false = Rows.objectBigRow.goesBy Tryz.pinned.checked.prog := by kernel_rfl
theorem joined : joinedFacts Tryz.pinned.checked.prog 8 Tryz.f8 Rows.objectBigSpec Rows.objectBigRow = true := by
  unfold joinedFacts
  simp only [Bool.and_eq_true]
  and_intros
  all_goals first
    | with_reducible exact in_place | with_reducible exact unfollowed_is | with_reducible exact recurses_is | with_reducible exact vars_named
    | with_reducible exact may_enter | with_reducible exact laid_out | with_reducible exact maps_rowed | with_reducible exact stops_heard
    | (rw [lifts_final]; kernel_rfl) | (rw [make_is]; kernel_rfl) | (as_aux_lemma => kernel_rfl)
theorem wrapper_is : Tryz.f8.isWrapper Tryz.pinned.checked.prog Rows.objectBigRow.wrapper Rows.objectBigRow.mainSum := by
  unfold Func.isWrapper; first | (rw [if_pos (by decide +kernel)]; kernel_rfl) | (rw [if_neg (by decide +kernel)]; exact ⟨rfl, rfl⟩)
theorem instance_is : Tryz.f8.isInstance Tryz.pinned.checked.prog Rows.objectBigRow.origin Rows.objectBigRow.targs := of_decide_eq_true (by kernel_rfl)
theorem holds : Rows.objectBigRow.holds Tryz.pinned (OpenSpec.ofChange Rows.objectBigSpec) :=
  OpenClaim.holds_of_wide 8 Tryz.f8 rfl rfl rfl rfl rfl rfl rfl ⟨rfl, rfl, rfl, rfl, rfl⟩ rfl rfl rfl rfl rfl func_named Tryz.func8 joined instance_is wrapper_is
    (fun os started H enc _ => lifted os started H enc)
theorem no_stand_in : (Tryz.f8.params.toList.all fun u => !Tryz.prog.wantsStandIn u) = true := by kernel_rfl
theorem proved : Rows.ObjectBigCardSaid :=
  Claim7.holds_tied_plain_at .later [] [.data, .data, .data, .data, .sentinel, .sentinel, .pinned] true (true, "a04f3e13de93d9f260f715071d2c9d152b55cb9d1f3bfd372f21fd453612c5c3") true holds (fun _ h => by cases h) wf_text (fun _ h => by cases h) objectBig_row_tie rfl ⟨rfl, rfl⟩ (main_is.trans (by kernel_rfl)) rfl
    (fun f fn hf hfn => by
      obtain rfl : f = 8 := Option.some.inj (func_named.symm.trans hf) |>.symm
      obtain rfl : fn = Tryz.f8 := (Option.some.inj (Tryz.func8.symm.trans hfn)).symm
      exact ⟨looks_is.symm, fun j t ht => by
        have hm : t ∈ Tryz.f8.params.toList := by simpa using Array.mem_of_getElem? ht
        exact (show Tryz.prog.wantsStandIn t = false by simpa using List.all_eq_true.1 no_stand_in t hm)⟩)
    goes_is
#print axioms proved
end Go.Proofs.YticcianbphljpaaGreatDoor.objectBig
