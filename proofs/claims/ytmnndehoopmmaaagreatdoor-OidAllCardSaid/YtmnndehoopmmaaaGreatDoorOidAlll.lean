/- OidAll: the row's step and the card. -/
import Derived.Test.YtmnndehoopmmaaaGreatDoorLw
import Derived.Test.YtmnndehoopmmaaaGreatDoorLj
import Derived.Test.YtmnndehoopmmaaaGreatDoorOa
import Derived.Test.YtmnndehoopmmaaaGreatDoorLy
namespace Go.Proofs.YtmnndehoopmmaaaGreatDoor.oidAll
open Go.ChangeShapes Go.WideShapes Go.ChangeAt Go.RowKit
set_option linter.unusedVariables false
set_option maxRecDepth 100000 in
theorem lifted (os : Os) (started : os.Started) (H : Type) (enc : TypeId × Value → H) :
    ReturnsInHanded {} Tryz.checked os 8 .any (fun w args => (Rows.oidAllSpec.pre enc Tryz.prog Tryz.f8 [] false w args ∧ laidMetH Tryz.prog laid7 w) ∧ sizedMet enc Tryz.prog Tryz.f8 (OpenSpec.ofChange Rows.oidAllSpec) false w args) (Rows.oidAllSpec.post enc Tryz.prog Tryz.f8 false true false false) := by
  refine returnsInHanded_law (C := Tryz.checked) (X := fun w _ => laidMetH Tryz.prog laid7 w) (fun _ _ _ hh h => h.of_heap hh) own started (by kernel_rfl) Tryz.func8
    (ChangeSpec.witness_shaped (enc := enc) (C := Tryz.checked) (os := os) (X := fun w _ => laidMetH Tryz.prog laid7 w) false (World.laidAll Tryz.prog os laid7) #[.int .i64 0, .string ⟨#[]⟩, .string ⟨#[]⟩, .agg #[.int .u8 0, .int .u8 0, .int .u8 0, .int .u8 0, .int .u8 0, .int .u8 0, .int .u8 0, .int .u8 0, .int .u8 0, .int .u8 0, .int .u8 0, .int .u8 0, .int .u8 0, .int .u8 0, .int .u8 0, .int .u8 0, .int .u8 0, .int .u8 0, .int .u8 0, .int .u8 0, .int .u8 0, .int .u8 0, .int .u8 0, .int .u8 0, .int .u8 0, .int .u8 0, .int .u8 0, .int .u8 0, .int .u8 0, .int .u8 0, .int .u8 0, .int .u8 0], .agg #[.int .u8 0, .int .u8 0, .int .u8 0, .int .u8 0, .int .u8 0, .int .u8 0, .int .u8 0, .int .u8 0, .int .u8 0, .int .u8 0, .int .u8 0, .int .u8 0, .int .u8 0, .int .u8 0, .int .u8 0, .int .u8 0, .int .u8 0, .int .u8 0, .int .u8 0, .int .u8 0, .int .u8 0, .int .u8 0, .int .u8 0, .int .u8 0, .int .u8 0, .int .u8 0, .int .u8 0, .int .u8 0, .int .u8 0, .int .u8 0, .int .u8 0, .int .u8 0], .slice none 0 0] 8 (World.laidAll_os _ _ _)
      (World.shaped_of_ZipB (by kernel_rfl) (by kernel_rfl)) (by kernel_rfl) (by kernel_rfl) (by kernel_rfl)
      (by rw [MakeChecks.laidMetH_plain _ _ _ (by kernel_rfl)]; exact laidMet_laidAll _ (by kernel_rfl) (by kernel_rfl))) ?_
  intro W base args ds gs before hval0 hW hZ hL hS
  have hval : ∀ (j : Nat) t v, Tryz.f8.params[j]? = some t → args[j]? = some v → Value.okWide Tryz.prog W .any base t v := hval0
  have hW' := hW
  obtain ⟨p, q, hA0, hV, rfl, _, _⟩ := hW
  have hA : DataW.TrodAll enc Tryz.prog W 0 (fun _ => true) true Tryz.f8.params.toList args.toList ds p := hA0
  have hlt : ∀ x ∈ p ++ q, x.block < W.heap.size := fun x hx => hW'.lt x hx
  rw [Tryz.params8] at hA hval
  have hAk := hA
  obtain ⟨v0, vs0, d0, ds0, p0, q0, hargs, rfl, rfl, h0, r0⟩ := trodAll_cons hA
  obtain ⟨v1, vs1, d1, ds1, p1, q1, rfl, rfl, rfl, h1, r1⟩ := trodAll_cons r0
  obtain ⟨v2, vs2, d2, ds2, p2, q2, rfl, rfl, rfl, h2, r2⟩ := trodAll_cons r1
  obtain ⟨v3, vs3, d3, ds3, p3, q3, rfl, rfl, rfl, h3, r3⟩ := trodAll_cons r2
  obtain ⟨v4, vs4, d4, ds4, p4, q4, rfl, rfl, rfl, h4, r4⟩ := trodAll_cons r3
  obtain ⟨v5, vs5, d5, ds5, p5, q5, rfl, rfl, rfl, h5, r5⟩ := trodAll_cons r4
  obtain ⟨rfl, rfl, rfl⟩ := trodAll_nil r5
  obtain rfl : args = #[v0, v1, v2, v3, v4, v5] := by cases args; simp_all
  obtain ⟨rfl, rfl⟩ := trodVars_none hV
  have o0 := hval 0 3 v0 rfl rfl
  have o1 := hval 1 9 v1 rfl rfl
  have o2 := hval 2 9 v2 rfl rfl
  have o3 := hval 3 51 v3 rfl rfl
  have o4 := hval 4 51 v4 rfl rfl
  have o5 := hval 5 47 v5 rfl rfl
  obtain ⟨a0, rfl, rfl, rfl, w0⟩ := open_int Tryz.underlying3 o0 h0
  obtain ⟨s1, rfl⟩ := okWide_string (by kernel_rfl) o1
  obtain ⟨s2, rfl⟩ := okWide_string (by kernel_rfl) o2
  obtain ⟨l3, rfl, e3⟩ := open_id Tryz.underlying51 (by kernel_rfl) (by kernel_rfl) (by kernel_rfl) o3 h3
  obtain ⟨l4, rfl, e4⟩ := open_id Tryz.underlying51 (by kernel_rfl) (by kernel_rfl) (by kernel_rfl) o4 h4
  obtain ⟨A5, n5, c5, l5, rfl, k5, m5, s5⟩ := open_row_ids Tryz.underlying47 Tryz.underlying51 Tryz.underlying5 (by kernel_rfl) (by kernel_rfl) o5 h5
  rw [MakeChecks.laidMetH_plain _ _ _ (by kernel_rfl)] at hL
  have hG : Gl W := gl_of hL hS
  refine (oidAll_any W a0 s1 s2 ⟨l3, e3⟩ ⟨l4, e4⟩ A5 n5 c5 l5 s5 k5 hG).mono fun e W' ⟨he, hb⟩ => ?_
  subst he
  exact ⟨_, rfl, _, _, _, [], _, [], hW', (trodAll_cons_mk (shut_bool Tryz.underlying4 _) trodAll_mk0), below_trodAll laid_out (by kernel_rfl) hAk hb (fun x hx => hlt x (List.mem_append_left _ hx)), rfl, hb.frame _, fun h => by cases h⟩
theorem in_place : (Rows.oidAllRow.inPlace == Tryz.pinned.checked.prog.inPlace 8) = true := by kernel_rfl
theorem unfollowed_is : (Rows.oidAllRow.unfollowed == Tryz.pinned.checked.prog.unfollowed 8) = true := by kernel_rfl
theorem recurses_is : (Rows.oidAllRow.recurses == Tryz.pinned.checked.prog.recurses 8) = true := by kernel_rfl
theorem vars_named : (Rows.oidAllRow.named == Tryz.pinned.checked.prog.varsNamed 8) = true := by kernel_rfl
theorem func_named : Tryz.pinned.checked.prog.funcNamed "colporteur/colporteurlaw1.OidAll" = some 8 := by kernel_rfl
theorem wf_text : Rows.oidAllRow.wfByText (OpenSpec.ofChange Rows.oidAllSpec) = true := by kernel_rfl
theorem goes_is : false = Rows.oidAllRow.goesBy Tryz.pinned.checked.prog := by kernel_rfl
theorem joined : joinedFacts Tryz.pinned.checked.prog 8 Tryz.f8 Rows.oidAllSpec Rows.oidAllRow = true := by
  unfold joinedFacts
  simp only [Bool.and_eq_true]
  and_intros
  all_goals first
    | with_reducible exact in_place | with_reducible exact unfollowed_is | with_reducible exact recurses_is | with_reducible exact vars_named
    | with_reducible exact may_enter | with_reducible exact laid_out | with_reducible exact maps_rowed | with_reducible exact stops_heard
    | (rw [lifts_final]; kernel_rfl) | (rw [make_is]; kernel_rfl) | (as_aux_lemma => kernel_rfl)
theorem wrapper_is : Tryz.f8.isWrapper Tryz.pinned.checked.prog Rows.oidAllRow.wrapper Rows.oidAllRow.mainSum := by
  unfold Func.isWrapper; first | (rw [if_pos (by decide +kernel)]; kernel_rfl) | (rw [if_neg (by decide +kernel)]; exact ⟨rfl, rfl⟩)
theorem instance_is : Tryz.f8.isInstance Tryz.pinned.checked.prog Rows.oidAllRow.origin Rows.oidAllRow.targs := of_decide_eq_true (by kernel_rfl)
theorem holds : Rows.oidAllRow.holds Tryz.pinned (OpenSpec.ofChange Rows.oidAllSpec) :=
  OpenClaim.holds_of_wide 8 Tryz.f8 rfl rfl rfl rfl rfl rfl rfl ⟨rfl, rfl, rfl, rfl, rfl⟩ rfl rfl rfl rfl rfl func_named Tryz.func8 joined instance_is wrapper_is
    (fun os started H enc _ => lifted os started H enc)
theorem no_stand_in : (Tryz.f8.params.toList.all fun u => !Tryz.prog.wantsStandIn u) = true := by kernel_rfl
theorem proved : Rows.OidAllCardSaid :=
  Claim7.holds_tied_plain_at .later [] [.data, .data, .data, .data, .sentinel, .sentinel, .pinned] true (true, "6f59ab7a00d3cf06040e7bd7cea1c9bfcf0d310a27987686a6d88fad60fd38b3") true holds (fun _ h => by cases h) wf_text (fun _ h => by cases h) oidAll_row_tie rfl ⟨rfl, rfl⟩ (main_is.trans (by kernel_rfl)) rfl
    (fun f fn hf hfn => by
      obtain rfl : f = 8 := Option.some.inj (func_named.symm.trans hf) |>.symm
      obtain rfl : fn = Tryz.f8 := (Option.some.inj (Tryz.func8.symm.trans hfn)).symm
      exact ⟨looks_is.symm, fun j t ht => by
        have hm : t ∈ Tryz.f8.params.toList := by simpa using Array.mem_of_getElem? ht
        exact (show Tryz.prog.wantsStandIn t = false by simpa using List.all_eq_true.1 no_stand_in t hm)⟩)
    goes_is
#print axioms proved
end Go.Proofs.YtmnndehoopmmaaaGreatDoor.oidAll
