/- TreeName: each byte alone in a name; names up to twenty bytes: the law's walk. -/
import Derived.Test.YtcomibocajjhoaaGreatDoorBn
import Derived.Test.YtcomibocajjhoaaGreatDoorP18x
namespace Go.Proofs.YtcomibocajjhoaaGreatDoor
open Go.RowKit
theorem nameB_two (x : UInt8) : nameB [97, x] = letterB x := by
  have h : letterB 97 = true := by decide
  have e1 : ([97, x] == ([46] : List UInt8)) = false := rfl
  have e2 : ([97, x] == ([46, 46] : List UInt8)) = false := rfl
  unfold nameB
  rw [e1, e2]
  simp [h]
theorem nameB_qs (q : Nat) : nameB (List.replicate q 113) = (decide (1 ≤ q) && decide (q ≤ 20)) := by
  have h : letterB 113 = true := by decide
  have e0 : (List.replicate q (113 : UInt8)).all letterB = true := by
    rw [List.all_eq_true]
    intro c hc
    rw [List.eq_of_mem_replicate hc]
    exact h
  have e1 : (List.replicate q (113 : UInt8) == [46]) = false := by
    cases q with
    | zero => rfl
    | succ q => rfl
  have e2 : (List.replicate q (113 : UInt8) == [46, 46]) = false := by
    cases q with
    | zero => rfl
    | succ q => rfl
  unfold nameB
  rw [e0, e1, e2]
  simp
theorem nameB_dots : nameB [46] = false ∧ nameB [46, 46] = false ∧ nameB [46, 46, 46] = true := by decide
set_option maxRecDepth 20000 in
set_option maxHeartbeats 6400000 in
theorem treeNameLaw_any (W : World) (x : UInt8) (n : Int) (hG : Gl W) (hE : Ge W) :
    Calls Tryz.prog 3 #[.int .u8 (ub x), .int .i64 n] W fun e W' => e = .returned (.bool true) ∧ Below W.heap.size W W' := by
  obtain ⟨q, hq, he⟩ := tmod_round n 25 (by omega) (by omega)
  have cB := begun6_any W hG hE
  have CB := Lib.hid cB
  have u0 := ub_nonneg x
  have u1 := ub_lt x
  have HL := Lib.hid (letter_ints x)
  clear cB hG hE
  have q25 : q < 25 := by omega
  go_enter Tryz.func3, Tryz.ntmps3
  go_upto_region 7 with (go_at_call 11; refine CB.out.mono ?_; rintro e w1 ⟨rfl, hb⟩; have B1 := Lib.hid hb; clear hb)
  clear he
  go_loopw [6, 7] (fun s i wr => ∃ (k : Nat) (y : ByteArray), k ≤ q ∧ i = .int .i64 k ∧ s = .string y ∧ y.data.toList = List.replicate k 113 ∧ wr = w1) (fun _ i _ => q - (intOf i).toNat)
  case atStart => exact ⟨0, ⟨#[]⟩, by omega, rfl, rfl, rfl, rfl⟩
  case round =>
    obtain ⟨k, y, hk, rfl, rfl, hy, hw⟩ := hrel
    subst hw
    have ys : y.size = k := by rw [ba_size, hy]; simp
    by_cases hlt : k < q
    · have k1 : (k : Int) < (q : Int) := by omega
      have hny : (y ++ (⟨#[113]⟩ : ByteArray)).data.toList = List.replicate (k + 1) 113 := by
        rw [ba_append, hy, List.replicate_succ']
      have NY := Lib.hid hny
      have HLT := Lib.hid hlt
      clear hy hny hlt
      go_wp2
      go_roundw
      case measure => simp [intOf]; have := HLT.out; omega
      case rel => exact ⟨k + 1, _, HLT.out, by go_num, rfl, NY.out, by first | trivial | rfl⟩
    · have : k = q := by omega
      subst this
      have HY := Lib.hid hy
      clear hy hlt hk
      go_upto_region 10 with fail
      generalize hu : ub x = u at u0 u1 HL ⊢
      have HU := Lib.hid hu
      clear hu
      go_cut [8] (fun v wx => v = .bool (letterB x) ∧ wx = wr)
      case first =>
        by_cases h46 : u = 46
        · subst h46
          go_wp2_with fail
          all_goals
            go_meet
            refine ⟨?_, rfl⟩
            refine congrArg Value.bool ?_
            rw [HL.out]
            first
            | rfl
            | (refine Bool.eq_iff_iff.2 ?_; simp only [Bool.or_eq_true, Bool.and_eq_true, decide_eq_true_eq, beq_iff_eq, Bool.false_eq_true, true_iff, false_iff]; first | done | omega)
        · by_cases h45 : u = 45
          · subst h45
            go_wp2_with fail
            all_goals
              go_meet
              refine ⟨?_, rfl⟩
              refine congrArg Value.bool ?_
              rw [HL.out]
              first
              | rfl
              | (refine Bool.eq_iff_iff.2 ?_; simp only [Bool.or_eq_true, Bool.and_eq_true, decide_eq_true_eq, beq_iff_eq, Bool.false_eq_true, true_iff, false_iff]; first | done | omega)
          · skip
            go_wp2_with fail
            all_goals
              go_meet
              refine ⟨?_, rfl⟩
              refine congrArg Value.bool ?_
              rw [HL.out]
              first
              | rfl
              | (refine Bool.eq_iff_iff.2 ?_; simp only [Bool.or_eq_true, Bool.and_eq_true, decide_eq_true_eq, beq_iff_eq, true_iff]; first | done | omega)
      case rest =>
        obtain ⟨rfl, hw2⟩ := hcut
        have hw3 := hw2.symm
        subst hw3
        clear hw2
        have hu := HU.out
        subst hu
        clear HL u0 u1 HU
        obtain ⟨ax, hax⟩ : ∃ ax : ByteArray, (⟨#[97]⟩ : ByteArray) ++ ⟨#[x]⟩ = ax := ⟨_, rfl⟩
        have sB : Src (wr.alloc (.cells (Bs [x]).toArray 5)) 1 (some ⟨wr.heap.size, 0, none⟩) 1 (Bs [x]) := ⟨rfl, fun _ => ⟨_, rfl, fun j u hu => by
          rw [addr_row _ rfl, Nat.zero_add]
          exact (Blk.new wr 5 (Bs [x])).cell j u hu⟩, Bs_one _⟩
        have SB := Lib.hid sB
        have LA := Lib.hid (B1.out.alloc B1.out.size (.cells #[.int .u8 (ub x)] 5))
        have cN1 : ∀ w, Calls Tryz.prog 12 #[.string ax] w fun e w' => e = .returned (.bool (letterB x)) ∧ Below w.heap.size w w' := fun w => by
          have := treeName_any w ax [97, x] (by rw [← hax, ba_append]; rfl) (by rw [← hax, ByteArray.size_append]; exact Nat.le_of_ble_eq_true rfl)
          rwa [nameB_two] at this
        have cN2 : ∀ w, Calls Tryz.prog 12 #[.string y] w fun e w' => e = .returned (.bool (decide (1 ≤ k) && decide (k ≤ 20))) ∧ Below w.heap.size w w' := fun w => by
          have := treeName_any w y _ HY.out.symm (by omega)
          rwa [nameB_qs] at this
        have cN3 : ∀ w, Calls Tryz.prog 12 #[.string ⟨#[46]⟩] w fun e w' => e = .returned (.bool false) ∧ Below w.heap.size w w' := fun w => treeName_any w ⟨#[46]⟩ [46] rfl (Nat.le_of_ble_eq_true rfl)
        have cN4 : ∀ w, Calls Tryz.prog 12 #[.string ⟨#[46, 46]⟩] w fun e w' => e = .returned (.bool false) ∧ Below w.heap.size w w' := fun w => treeName_any w ⟨#[46, 46]⟩ [46, 46] rfl (Nat.le_of_ble_eq_true rfl)
        have cN5 : ∀ w, Calls Tryz.prog 12 #[.string ⟨#[46, 46, 46]⟩] w fun e w' => e = .returned (.bool true) ∧ Below w.heap.size w w' := fun w => treeName_any w ⟨#[46, 46, 46]⟩ [46, 46, 46] rfl (Nat.le_of_ble_eq_true rfl)
        generalize letterB x = lt at cN1 ⊢
        have CN1 := Lib.hid cN1
        have CN3 := Lib.hid cN3
        have CN4 := Lib.hid cN4
        have CN5 := Lib.hid cN5
        clear sB cN1 cN3 cN4 cN5 hq q25
        by_cases h1 : 1 ≤ k
        · have i1 : (1 : Int) ≤ (k : Int) := by omega
          by_cases h2 : k ≤ 20
          · have i2 : (k : Int) ≤ 20 := by omega
            rw [decide_eq_true h1, decide_eq_true h2] at cN2
            have CN2 := Lib.hid cN2
            clear cN2 h1 h2
            go_wp2_with (refine wpl_conv rfl 24 9 _ rfl (.string ⟨#[x]⟩) (run_str _ (some ⟨wr.heap.size, 0, none⟩) 1 1 [x] SB.out) ?_)
            go_at_call 12
            refine (CN1.out _).mono ?_
            rintro e w2 ⟨rfl, hb⟩
            have L2 := Lib.hid (LA.out.trans (hb.mono LA.out.size))
            clear hb
            go_wp2_with fail
            go_at_call 12
            refine (CN2.out _).mono ?_
            rintro e w3 ⟨rfl, hb⟩
            have L3 := Lib.hid (L2.out.trans (hb.mono L2.out.size))
            clear hb
            go_wp2_with fail
            go_at_call 12
            refine (CN3.out _).mono ?_
            rintro e w4 ⟨rfl, hb⟩
            have L4 := Lib.hid (L3.out.trans (hb.mono L3.out.size))
            clear hb
            go_wp2_with fail
            go_at_call 12
            refine (CN4.out _).mono ?_
            rintro e w5 ⟨rfl, hb⟩
            have L5 := Lib.hid (L4.out.trans (hb.mono L4.out.size))
            clear hb
            go_wp2_with fail
            go_at_call 12
            refine (CN5.out _).mono ?_
            rintro e w6 ⟨rfl, hb⟩
            have L6 := Lib.hid (L5.out.trans (hb.mono L5.out.size))
            clear hb
            go_wp2_with fail
            go_ret
            exact ⟨rfl, L6.out⟩
          · have i2 : ¬ ((k : Int) ≤ 20) := by omega
            rw [decide_eq_true h1, decide_eq_false h2] at cN2
            have CN2 := Lib.hid cN2
            clear cN2 h1 h2
            go_wp2_with (refine wpl_conv rfl 24 9 _ rfl (.string ⟨#[x]⟩) (run_str _ (some ⟨wr.heap.size, 0, none⟩) 1 1 [x] SB.out) ?_)
            go_at_call 12
            refine (CN1.out _).mono ?_
            rintro e w2 ⟨rfl, hb⟩
            have L2 := Lib.hid (LA.out.trans (hb.mono LA.out.size))
            clear hb
            go_wp2_with fail
            go_at_call 12
            refine (CN2.out _).mono ?_
            rintro e w3 ⟨rfl, hb⟩
            have L3 := Lib.hid (L2.out.trans (hb.mono L2.out.size))
            clear hb
            go_wp2_with fail
            go_at_call 12
            refine (CN3.out _).mono ?_
            rintro e w4 ⟨rfl, hb⟩
            have L4 := Lib.hid (L3.out.trans (hb.mono L3.out.size))
            clear hb
            go_wp2_with fail
            go_at_call 12
            refine (CN4.out _).mono ?_
            rintro e w5 ⟨rfl, hb⟩
            have L5 := Lib.hid (L4.out.trans (hb.mono L4.out.size))
            clear hb
            go_wp2_with fail
            go_at_call 12
            refine (CN5.out _).mono ?_
            rintro e w6 ⟨rfl, hb⟩
            have L6 := Lib.hid (L5.out.trans (hb.mono L5.out.size))
            clear hb
            go_wp2_with fail
            go_ret
            refine ⟨congrArg Ending.returned (congrArg Value.bool (?_ : (!decide ((k : Int) ≤ 20)) = true)), L6.out⟩
            rw [decide_eq_false (by omega : ¬ ((k : Int) ≤ 20))]
            rfl
        · have i1 : ¬ ((1 : Int) ≤ (k : Int)) := by omega
          rw [decide_eq_false h1, Bool.false_and] at cN2
          have CN2 := Lib.hid cN2
          clear cN2 h1
          go_wp2_with (refine wpl_conv rfl 24 9 _ rfl (.string ⟨#[x]⟩) (run_str _ (some ⟨wr.heap.size, 0, none⟩) 1 1 [x] SB.out) ?_)
          go_at_call 12
          refine (CN1.out _).mono ?_
          rintro e w2 ⟨rfl, hb⟩
          have L2 := Lib.hid (LA.out.trans (hb.mono LA.out.size))
          clear hb
          go_wp2_with fail
          go_at_call 12
          refine (CN2.out _).mono ?_
          rintro e w3 ⟨rfl, hb⟩
          have L3 := Lib.hid (L2.out.trans (hb.mono L2.out.size))
          clear hb
          go_wp2_with fail
          go_at_call 12
          refine (CN3.out _).mono ?_
          rintro e w4 ⟨rfl, hb⟩
          have L4 := Lib.hid (L3.out.trans (hb.mono L3.out.size))
          clear hb
          go_wp2_with fail
          go_at_call 12
          refine (CN4.out _).mono ?_
          rintro e w5 ⟨rfl, hb⟩
          have L5 := Lib.hid (L4.out.trans (hb.mono L4.out.size))
          clear hb
          go_wp2_with fail
          go_at_call 12
          refine (CN5.out _).mono ?_
          rintro e w6 ⟨rfl, hb⟩
          have L6 := Lib.hid (L5.out.trans (hb.mono L5.out.size))
          clear hb
          go_wp2_with fail
          go_ret
          exact ⟨rfl, L6.out⟩
theorem treeNameLaw_int (W : World) (c n : Int) (hc : 0 ≤ c ∧ c < 256) (hG : Gl W) (hE : Ge W) :
    Calls Tryz.prog 3 #[.int .u8 c, .int .i64 n] W fun e W' => e = .returned (.bool true) ∧ Below W.heap.size W W' := by
  obtain ⟨x, rfl⟩ := ub_of c hc.1 hc.2
  exact treeNameLaw_any W x n hG hE
end Go.Proofs.YtcomibocajjhoaaGreatDoor
