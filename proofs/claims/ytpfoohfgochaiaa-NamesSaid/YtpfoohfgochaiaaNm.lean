/- The statement Names: the numbers of package api: no condition. -/
import Derived.Test.YtpfoohfgochaiaaRows
import Derived.WalkKit
import Derived.WalkSpells
import Derived.WalkLawsBesides
import Derived.ProofKit
import Derived.OpenShut
import Derived.Deep.QuietTactic
import Derived.BigQuiet
import Derived.Lib.Hide
namespace Go.Proofs.Ytpfoohfgochaiaa
open Go.RowKit
def nums37 : List Int := [0, 1, 2, 3, 4, 5, 6, 7, 8, 9, 10, 11, 12, 1000, 20, 20, 4, 100, 200, 4, 1000, 16, 40, 200, 1000, 100, 1, 2, 3, 1, 2, 3, 4, 5, 6, 7, 8]
theorem nums37_at (k : Nat) (h : k < 37) : ((nums37.map (Value.int .i64)).toArray)[k]? = some (.int .i64 (nums37.getD k 0)) := by
  have hl : nums37.length = 37 := rfl
  simp [List.getElem?_eq_getElem (show k < nums37.length by omega), List.getD_eq_getElem?_getD]
def Two (w wr : World) : Prop := Grown w wr ∧ ∀ k, k < 37 → wr.cell? ⟨w.heap.size, k, none⟩ = some (.int .i64 (nums37.getD k 0)) ∧ wr.cell? ⟨w.heap.size + 1, k, none⟩ = some (.int .i64 (nums37.getD k 0))
theorem two_new (w : World) : Two w ((w.alloc (.cells (nums37.map (Value.int .i64)).toArray 3)).alloc (.cells (nums37.map (Value.int .i64)).toArray 3)) := by
  refine ⟨((Grown.refl _).alloc _ _).alloc _ _, fun k hk => ⟨?_, ?_⟩⟩
  · rw [cell_of_row _ _ _ _ _ _ (heap_alloc2_old w _ _), nums37_at k hk]
  · rw [cell_of_row _ _ _ _ _ _ (heap_alloc2_new w _ _), nums37_at k hk]
theorem Two.drewN {w wr : World} (h : Two w wr) (n : Nat) : Two w (wr.drewN n) := by
  refine ⟨?_, fun k hk => by simpa using h.2 k hk⟩
  have h1 := h.1
  clear h
  induction n with
  | zero => exact h1
  | succ n ih => rw [← World.drew_drewN]; exact Grown.drew ih
set_option maxRecDepth 100000 in
set_option maxHeartbeats 400000 in
theorem walk0  (w : World) :
    Calls Try.prog 3 #[] w fun e w' => e = .returned (.bool true) ∧ Grown w w' := by
  go_enter Try.func3, Try.ntmps3
  go_wp2
  go_loopw [3] (fun i wr => ∃ k : Nat, k ≤ 37 ∧ i = .int .i64 k ∧ Two w wr) (fun i _ => 37 - (intOf i).toNat)
  case atStart => exact ⟨0, by omega, rfl, two_new w⟩
  case round =>
    obtain ⟨k, hk, rfl, hT⟩ := hrel
    by_cases hlt : k < 37
    · obtain ⟨c1, c2⟩ := hT.2 k hlt
      have HT := Lib.hid hT
      clear hT
      have l1 : (k : Int) < 37 := by omega
      have l2 : 0 ≤ (k : Int) := by omega
      go_wp2
      go_quiet (fail)
      go_wp2
      go_roundw
      case rel => exact ⟨k + 1, by omega, by go_num, HT.out.drewN _⟩
      case measure => simp [intOf]; omega
    · have hk : k = 37 := by omega
      subst hk
      go_wp2
      go_ret
      exact ⟨rfl, hT.1⟩
open Go.ChangeShapes Go.WideShapes Go.ChangeAt
namespace names
theorem own : ownKnob Try.prog.godebug = none := by kernel_rfl

/-! ### THE ROW's STEP: WRITTEN OUT: LEAVE IT -/
set_option maxRecDepth 100000 in
theorem lifted (os : Os) (started : os.Started) (H : Type) (enc : TypeId × Value → H) :
    ReturnsInHanded {} Try.checked os 3 .any (Rows.namesSpec.pre6 enc Try.prog Try.f3 Rows.namesRow.domain false) (Rows.namesSpec.post enc Try.prog Try.f3 false true false false) := by
  refine returnsInHanded_of_change (C := Try.checked) own started (by kernel_rfl) Try.func3
    (ChangeSpec.witness6 (enc := enc) (C := Try.checked) false ⟨#[], #[], []⟩ 8 (by kernel_rfl) (by kernel_rfl) (by kernel_rfl) (by kernel_rfl)) ?_
  intro W base args ds gs before hval0 hW hcnd _
  have hval : ∀ (j : Nat) t v, Try.f3.params[j]? = some t → args[j]? = some v → Value.okWide Try.prog W .any base t v := hval0
  have hW' := hW
  obtain ⟨p, q, hA0, hV, rfl, hfz, hnd⟩ := hW
  have hA : DataW.TrodAll enc Try.prog W 0 (fun _ => true) true Try.f3.params.toList args.toList ds p := hA0
  rw [Try.params3] at hA hval
  obtain ⟨rfl, rfl, rfl⟩ := trodAll_none hA
  obtain ⟨rfl, rfl⟩ := trodVars_none hV
  clear hA0 hval0
  simp only [List.append_nil] at hW'
  refine (walk0 W).mono fun e W' ⟨he, hg⟩ => ?_
  subst he
  exact ⟨_, rfl, post_of_same (pa := []) (pv := []) hW' (fun _ _ _ => (trodAll_cons_mk (shut_bool Try.underlying4 _) trodAll_mk0)) (fun sp _ => rfl) (fun _ _ => rfl) rfl
    (hg.frame _) hg.2.1 (ok_one (by kernel_rfl) rfl (okWide_bool_mk Try.underlying4 _))⟩

theorem over : Rows.namesRow.holds Try.pinned (OpenSpec.ofChange Rows.namesSpec) :=
  OpenClaim.holds_of_wide 3 Try.f3 rfl rfl rfl rfl rfl rfl rfl ⟨rfl, rfl, rfl, rfl, rfl⟩ rfl rfl rfl rfl rfl (by kernel_rfl) Try.func3 (by kernel_rfl)
    (of_decide_eq_true (by kernel_rfl)) (by unfold Func.isWrapper; first | (rw [if_pos (by decide +kernel)]; kernel_rfl) | (rw [if_neg (by decide +kernel)]; exact ⟨rfl, rfl⟩))
    (fun os started H enc _ => lifted os started H enc)

/-- ████ THE STATEMENT ████ -/
theorem proved : Rows.NamesSaid :=
  over
#print axioms proved
end names
end Go.Proofs.Ytpfoohfgochaiaa
