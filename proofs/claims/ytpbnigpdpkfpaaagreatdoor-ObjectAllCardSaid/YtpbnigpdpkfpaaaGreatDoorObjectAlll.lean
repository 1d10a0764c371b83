/- ObjectAll: the row's step and the card. -/
import Derived.Test.YtpbnigpdpkfpaaaGreatDoorLw
import Derived.Test.YtpbnigpdpkfpaaaGreatDoorLj
import Derived.Test.YtpbnigpdpkfpaaaGreatDoorAo
import Derived.Test.YtpbnigpdpkfpaaaGreatDoorLv
namespace Go.Proofs.YtpbnigpdpkfpaaaGreatDoor.objectAll
open Go.ChangeShapes Go.WideShapes Go.ChangeAt Go.RowKit
set_option linter.unusedVariables false
set_option maxRecDepth 100000 in
theorem lifted (os : Os) (started : os.Started) (H : Type) (enc : TypeId × Value → H) :
    ReturnsInHanded {} Tryz.checked os 3 .any (fun w args => (Rows.objectAllSpec.pre enc Tryz.prog Tryz.f3 [] false w args ∧ laidMetH Tryz.prog laid7 w) ∧ sizedMet enc Tryz.prog Tryz.f3 (OpenSpec.ofChange Rows.objectAllSpec) false w args) (Rows.objectAllSpec.post enc Tryz.prog Tryz.f3 false true false false) := by
  refine returnsInHanded_law (C := Tryz.checked) (X := fun w _ => laidMetH Tryz.prog laid7 w) (fun _ _ _ hh h => h.of_heap hh) own started (by kernel_rfl) Tryz.func3
    (ChangeSpec.witness_shaped (enc := enc) (C := Tryz.checked) (os := os) (X := fun w _ => laidMetH Tryz.prog laid7 w) false (World.laidAll Tryz.prog os laid7) #[.agg #[.int .i64 0, .string ⟨#[]⟩, .slice none 0 0, .int .u8 0, .int .u8 0, .int .u8 0, .int .u8 0, .int .u8 0, .int .u8 0, .int .u8 0, .int .u8 0, .int .u8 0, .int .u8 0, .int .u8 0, .int .u8 0, .int .u8 0, .int .u8 0, .int .u8 0, .int .u8 0, .int .u8 0, .int .u8 0, .int .u8 0, .int .u8 0, .int .u8 0, .int .u8 0, .int .u8 0, .int .u8 0, .int .u8 0, .int .u8 0, .int .u8 0, .int .u8 0, .int .u8 0, .int .u8 0, .int .u8 0, .int .u8 0, .slice none 0 0, .float .f64 0, .string ⟨#[]⟩], .agg #[.int .i64 0, .string ⟨#[]⟩, .slice none 0 0, .int .u8 0, .int .u8 0, .int .u8 0, .int .u8 0, .int .u8 0, .int .u8 0, .int .u8 0, .int .u8 0, .int .u8 0, .int .u8 0, .int .u8 0, .int .u8 0, .int .u8 0, .int .u8 0, .int .u8 0, .int .u8 0, .int .u8 0, .int .u8 0, .int .u8 0, .int .u8 0, .int .u8 0, .int .u8 0, .int .u8 0, .int .u8 0, .int .u8 0, .int .u8 0, .int .u8 0, .int .u8 0, .int .u8 0, .int .u8 0, .int .u8 0, .int .u8 0, .slice none 0 0, .float .f64 0, .string ⟨#[]⟩], .int .i64 0, .string ⟨#[]⟩] 8 (World.laidAll_os _ _ _)
      (World.shaped_of_ZipB (by kernel_rfl) (by kernel_rfl)) (by kernel_rfl) (by kernel_rfl) (by kernel_rfl)
      (by rw [MakeChecks.laidMetH_plain _ _ _ (by kernel_rfl)]; exact laidMet_laidAll _ (by kernel_rfl) (by kernel_rfl))) ?_
  intro W base args ds gs before hval0 hW hZ hL hS
  have hval : ∀ (j : Nat) t v, Tryz.f3.params[j]? = some t → args[j]? = some v → Value.okWide Tryz.prog W .any base t v := hval0
  have hW' := hW
  obtain ⟨p, q, hA0, hV, rfl, _, _⟩ := hW
  have hA : DataW.TrodAll enc Tryz.prog W 0 (fun _ => true) true Tryz.f3.params.toList args.toList ds p := hA0
  have hlt : ∀ x ∈ p ++ q, x.block < W.heap.size := fun x hx => hW'.lt x hx
  rw [Tryz.params3] at hA hval
  have hAk := hA
  obtain ⟨v0, vs0, d0, ds0, p0, q0, hargs, rfl, rfl, h0, r0⟩ := trodAll_cons hA
  obtain ⟨v1, vs1, d1, ds1, p1, q1, rfl, rfl, rfl, h1, r1⟩ := trodAll_cons r0
  obtain ⟨v2, vs2, d2, ds2, p2, q2, rfl, rfl, rfl, h2, r2⟩ := trodAll_cons r1
  obtain ⟨v3, vs3, d3, ds3, p3, q3, rfl, rfl, rfl, h3, r3⟩ := trodAll_cons r2
  obtain ⟨rfl, rfl, rfl⟩ := trodAll_nil r3
  obtain rfl : args = #[v0, v1, v2, v3] := by cases args; simp_all
  obtain ⟨rfl, rfl⟩ := trodVars_none hV
  have o0 := hval 0 30 v0 rfl rfl
  have o1 := hval 1 30 v1 rfl rfl
  have o2 := hval 2 3 v2 rfl rfl
  have o3 := hval 3 9 v3 rfl rfl
  obtain ⟨b0, A0, n0, k0, B0, m0, d0, rfl, O0⟩ := open_ob o0 h0
  obtain ⟨b1, A1, n1, k1, B1, m1, d1, rfl, O1⟩ := open_ob o1 h1
  obtain ⟨a2, rfl, rfl, rfl, w2⟩ := open_int Tryz.underlying3 o2 h2
  obtain ⟨s3, rfl⟩ := okWide_string (by kernel_rfl) o3
  rw [MakeChecks.laidMetH_plain _ _ _ (by kernel_rfl)] at hL
  have hG : Gl W := gl_of hL hS
  refine (objectAllLaw_any W b0 A0 n0 k0 B0 m0 d0 O0 b1 A1 n1 k1 B1 m1 d1 O1 a2 s3 hG (ge_of hL)).mono fun e W' ⟨he, hb⟩ => ?_
  subst he
  exact ⟨_, rfl, _, _, _, [], _, [], hW', (trodAll_cons_mk (shut_bool Tryz.underlying4 _) trodAll_mk0), below_trodAll laid_out (by kernel_rfl) hAk hb (fun x hx => hlt x (List.mem_append_left _ hx)), rfl, hb.frame _, fun h => by cases h⟩
theorem in_place : (Rows.objectAllRow.inPlace == Tryz.pinned.checked.prog.inPlace 3) = true := by kernel_rfl
theorem unfollowed_is : (Rows.objectAllRow.unfollowed == Tryz.pinned.checked.prog.unfollowed 3) = true := by kernel_rfl
theorem recurses_is : (Rows.objectAllRow.recurses == Tryz.pinned.checked.prog.recurses 3) = true := by kernel_rfl
theorem vars_named : (Rows.objectAllRow.named == Tryz.pinned.checked.prog.varsNamed 3) = true := by kernel_rfl
theorem func_named : Tryz.pinned.checked.prog.funcNamed "colporteur/colporteurlaw6.ObjectAll" = some 3 := by kernel_rfl
theorem wf_text : Rows.objectAllRow.wfByText (OpenSpec.ofChange Rows.objectAllSpec) = true := by kernel_rfl
theorem goes_is : false = Rows.objectAllRow.goesBy Tryz.pinned.checked.prog := by kernel_rfl
theorem joined : joinedFacts Tryz.pinned.checked.prog 3 Tryz.f3 Rows.objectAllSpec Rows.objectAllRow = true := by
  unfold joinedFacts
  simp only [Bool.and_eq_true]
  and_intros
  all_goals first
    | with_reducible exact in_place | with_reducible exact unfollowed_is | with_reducible exact recurses_is | with_reducible exact vars_named
    | with_reducible exact may_enter | with_reducible exact laid_out | with_reducible exact maps_rowed | with_reducible exact stops_heard
    | (rw [lifts_final]; kernel_rfl) | (rw [make_is]; kernel_rfl) | (as_aux_lemma => kernel_rfl)
theorem wrapper_is : Tryz.f3.isWrapper Tryz.pinned.checked.prog Rows.objectAllRow.wrapper Rows.objectAllRow.mainSum := by
  unfold Func.isWrapper; first | (rw [if_pos (by decide +kernel)]; kernel_rfl) | (rw [if_neg (by decide +kernel)]; exact ⟨rfl, rfl⟩)
theorem instance_is : Tryz.f3.isInstance Tryz.pinned.checked.prog Rows.objectAllRow.origin Rows.objectAllRow.targs := of_decide_eq_true (by kernel_rfl)
theorem holds : Rows.objectAllRow.holds Tryz.pinned (OpenSpec.ofChange Rows.objectAllSpec) :=
  OpenClaim.holds_of_wide 3 Tryz.f3 rfl rfl rfl rfl rfl rfl rfl ⟨rfl, rfl, rfl, rfl, rfl⟩ rfl rfl rfl rfl rfl func_named Tryz.func3 joined instance_is wrapper_is
    (fun os started H enc _ => lifted os started H enc)
theorem no_stand_in : (Tryz.f3.params.toList.all fun u => !Tryz.prog.wantsStandIn u) = true := by kernel_rfl
theorem proved : Rows.ObjectAllCardSaid :=
  Claim7.holds_tied_plain_at .later [] [.data, .data, .data, .data, .sentinel, .sentinel, .pinned] true (true, "947c12fce838673b0a5c4e5c861f5640aadb5e1f68ebef8f83e4c610744d6fb8") true holds (fun _ h => by cases h) wf_text (fun _ h => by cases h) objectAll_row_tie rfl ⟨rfl, rfl⟩ (main_is.trans (by kernel_rfl)) rfl
    (fun f fn hf hfn => by
      obtain rfl : f = 3 := Option.some.inj (func_named.symm.trans hf) |>.symm
      obtain rfl : fn = Tryz.f3 := (Option.some.inj (Tryz.func3.symm.trans hfn)).symm
      exact ⟨looks_is.symm, fun j t ht => by
        have hm : t ∈ Tryz.f3.params.toList := by simpa using Array.mem_of_getElem? ht
        exact (show Tryz.prog.wantsStandIn t = false by simpa using List.all_eq_true.1 no_stand_in t hm)⟩)
    goes_is
#print axioms proved
end Go.Proofs.YtpbnigpdpkfpaaaGreatDoor.objectAll
