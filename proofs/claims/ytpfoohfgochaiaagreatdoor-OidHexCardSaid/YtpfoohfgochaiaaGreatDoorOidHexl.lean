/- OidHex: the row's step and the card. -/
import Derived.Test.YtpfoohfgochaiaaGreatDoorLw
import Derived.Test.YtpfoohfgochaiaaGreatDoorLj
import Derived.Test.YtpfoohfgochaiaaGreatDoorHx
import Derived.Test.YtpfoohfgochaiaaGreatDoorLp
namespace Go.Proofs.YtpfoohfgochaiaaGreatDoor.oidHex
open Go.ChangeShapes Go.WideShapes Go.ChangeAt Go.RowKit
set_option linter.unusedVariables false
set_option maxRecDepth 100000 in
theorem lifted (os : Os) (started : os.Started) (H : Type) (enc : TypeId × Value → H) :
    ReturnsInHanded {} Tryz.checked os 16 .any (fun w args => (Rows.oidHexSpec.pre enc Tryz.prog Tryz.f16 [] false w args ∧ laidMetH Tryz.prog laid7 w) ∧ sizedMet enc Tryz.prog Tryz.f16 (OpenSpec.ofChange Rows.oidHexSpec) false w args) (Rows.oidHexSpec.post enc Tryz.prog Tryz.f16 false true false false) := by
  refine returnsInHanded_law (C := Tryz.checked) (X := fun w _ => laidMetH Tryz.prog laid7 w) (fun _ _ _ hh h => h.of_heap hh) own started (by kernel_rfl) Tryz.func16
    (ChangeSpec.witness_shaped (enc := enc) (C := Tryz.checked) (os := os) (X := fun w _ => laidMetH Tryz.prog laid7 w) false (World.laidAll Tryz.prog os laid7) #[.agg #[.int .u8 0, .int .u8 0, .int .u8 0, .int .u8 0, .int .u8 0, .int .u8 0, .int .u8 0, .int .u8 0, .int .u8 0, .int .u8 0, .int .u8 0, .int .u8 0, .int .u8 0, .int .u8 0, .int .u8 0, .int .u8 0, .int .u8 0, .int .u8 0, .int .u8 0, .int .u8 0, .int .u8 0, .int .u8 0, .int .u8 0, .int .u8 0, .int .u8 0, .int .u8 0, .int .u8 0, .int .u8 0, .int .u8 0, .int .u8 0, .int .u8 0, .int .u8 0], .int .i64 0, .int .u8 0] 8 (World.laidAll_os _ _ _)
      (World.shaped_of_ZipB (by kernel_rfl) (by kernel_rfl)) (by kernel_rfl) (by kernel_rfl) (by kernel_rfl)
      (by rw [MakeChecks.laidMetH_plain _ _ _ (by kernel_rfl)]; exact laidMet_laidAll _ (by kernel_rfl) (by kernel_rfl))) ?_
  intro W base args ds gs before hval0 hW hZ hL hS
  have hval : ∀ (j : Nat) t v, Tryz.f16.params[j]? = some t → args[j]? = some v → Value.okWide Tryz.prog W .any base t v := hval0
  have hW' := hW
  obtain ⟨p, q, hA0, hV, rfl, _, _⟩ := hW
  have hA : DataW.TrodAll enc Tryz.prog W 0 (fun _ => true) true Tryz.f16.params.toList args.toList ds p := hA0
  have hlt : ∀ x ∈ p ++ q, x.block < W.heap.size := fun x hx => hW'.lt x hx
  rw [Tryz.params16] at hA hval
  have hAk := hA
  obtain ⟨v0, vs0, d0, ds0, p0, q0, hargs, rfl, rfl, h0, r0⟩ := trodAll_cons hA
  obtain ⟨v1, vs1, d1, ds1, p1, q1, rfl, rfl, rfl, h1, r1⟩ := trodAll_cons r0
  obtain ⟨v2, vs2, d2, ds2, p2, q2, rfl, rfl, rfl, h2, r2⟩ := trodAll_cons r1
  obtain ⟨rfl, rfl, rfl⟩ := trodAll_nil r2
  obtain rfl : args = #[v0, v1, v2] := by cases args; simp_all
  obtain ⟨rfl, rfl⟩ := trodVars_none hV
  have o0 := hval 0 72 v0 rfl rfl
  have o1 := hval 1 3 v1 rfl rfl
  have o2 := hval 2 5 v2 rfl rfl
  obtain ⟨l0, rfl, e0⟩ := open_id Tryz.underlying72 (by kernel_rfl) (by kernel_rfl) (by kernel_rfl) o0 h0
  obtain ⟨a1, rfl, rfl, rfl, w1⟩ := open_int Tryz.underlying3 o1 h1
  obtain ⟨a2, rfl, rfl, rfl, w2⟩ := open_int Tryz.underlying5 o2 h2
  rw [MakeChecks.laidMetH_plain _ _ _ (by kernel_rfl)] at hL
  have hG : Gl W := gl_of hL hS
  refine (oidHex_any W l0 e0 a1 a2 (by have := w2; simp [Lit.wf, IntKind.min, IntKind.max, IntKind.bits, IntKind.signed] at this; omega) (by have := w2; simp [Lit.wf, IntKind.min, IntKind.max, IntKind.bits, IntKind.signed] at this; omega) hG).mono fun e W' ⟨he, hb⟩ => ?_
  subst he
  exact ⟨_, rfl, _, _, _, [], _, [], hW', (trodAll_cons_mk (shut_bool Tryz.underlying4 _) trodAll_mk0), below_trodAll laid_out (by kernel_rfl) hAk hb (fun x hx => hlt x (List.mem_append_left _ hx)), rfl, hb.frame _, fun h => by cases h⟩
theorem in_place : (Rows.oidHexRow.inPlace == Tryz.pinned.checked.prog.inPlace 16) = true := by kernel_rfl
theorem unfollowed_is : (Rows.oidHexRow.unfollowed == Tryz.pinned.checked.prog.unfollowed 16) = true := by kernel_rfl
theorem recurses_is : (Rows.oidHexRow.recurses == Tryz.pinned.checked.prog.recurses 16) = true := by kernel_rfl
theorem vars_named : (Rows.oidHexRow.named == Tryz.pinned.checked.prog.varsNamed 16) = true := by kernel_rfl
theorem func_named : Tryz.pinned.checked.prog.funcNamed "colporteur/colporteurlaw1.OidHex" = some 16 := by kernel_rfl
theorem wf_text : Rows.oidHexRow.wfByText (OpenSpec.ofChange Rows.oidHexSpec) = true := by kernel_rfl
theorem goes_is : false = Rows.oidHexRow.goesBy Tryz.pinned.checked.prog := by kernel_rfl
theorem joined : joinedFacts Tryz.pinned.checked.prog 16 Tryz.f16 Rows.oidHexSpec Rows.oidHexRow = true := by
  unfold joinedFacts
  simp only [Bool.and_eq_true]
  and_intros
  all_goals first
    | with_reducible exact in_place | with_reducible exact unfollowed_is | with_reducible exact recurses_is | with_reducible exact vars_named
    | with_reducible exact may_enter | with_reducible exact laid_out | with_reducible exact maps_rowed | with_reducible exact stops_heard
    | (rw [lifts_final]; kernel_rfl) | (rw [make_is]; kernel_rfl) | (as_aux_lemma => kernel_rfl)
theorem wrapper_is : Tryz.f16.isWrapper Tryz.pinned.checked.prog Rows.oidHexRow.wrapper Rows.oidHexRow.mainSum := by
  unfold Func.isWrapper; first | (rw [if_pos (by decide +kernel)]; kernel_rfl) | (rw [if_neg (by decide +kernel)]; exact ⟨rfl, rfl⟩)
theorem instance_is : Tryz.f16.isInstance Tryz.pinned.checked.prog Rows.oidHexRow.origin Rows.oidHexRow.targs := of_decide_eq_true (by kernel_rfl)
theorem holds : Rows.oidHexRow.holds Tryz.pinned (OpenSpec.ofChange Rows.oidHexSpec) :=
  OpenClaim.holds_of_wide 16 Tryz.f16 rfl rfl rfl rfl rfl rfl rfl ⟨rfl, rfl, rfl, rfl, rfl⟩ rfl rfl rfl rfl rfl func_named Tryz.func16 joined instance_is wrapper_is
    (fun os started H enc _ => lifted os started H enc)
theorem no_stand_in : (Tryz.f16.params.toList.all fun u => !Tryz.prog.wantsStandIn u) = true := by kernel_rfl
theorem proved : Rows.OidHexCardSaid :=
  Claim7.holds_tied_plain_at .later [] [.data, .data, .data, .data, .sentinel, .sentinel, .pinned] true (true, "589c7bec5ddeb8b72b8ecd8983c6dc1fabe5e23b3e33113f7832a6450cc9617e") true holds (fun _ h => by cases h) wf_text (fun _ h => by cases h) oidHex_row_tie rfl ⟨rfl, rfl⟩ (main_is.trans (by kernel_rfl)) rfl
    (fun f fn hf hfn => by
      obtain rfl : f = 16 := Option.some.inj (func_named.symm.trans hf) |>.symm
      obtain rfl : fn = Tryz.f16 := (Option.some.inj (Tryz.func16.symm.trans hfn)).symm
      exact ⟨looks_is.symm, fun j t ht => by
        have hm : t ∈ Tryz.f16.params.toList := by simpa using Array.mem_of_getElem? ht
        exact (show Tryz.prog.wantsStandIn t = false by simpa using List.all_eq_true.1 no_stand_in t hm)⟩)
    goes_is
#print axioms proved
end Go.Proofs.YtpfoohfgochaiaaGreatDoor.oidHex
