/- WhenAll: the walk of the law's body. -/
import Derived.Test.YtmnndehoopmmaaaGreatDoorRg
import Derived.Test.YtmnndehoopmmaaaGreatDoorTw
import Derived.Test.YtmnndehoopmmaaaGreatDoorBe
namespace Go.Proofs.YtmnndehoopmmaaaGreatDoor
open Go.RowKit
set_option maxRecDepth 20000 in
set_option maxHeartbeats 8000000 in
theorem whenAll_any (W : World) (a b : Nat) (u : Nat) (s : ByteArray) (ha : a < 18446744073709551616) (hb : b < 18446744073709551616) (hu : u < 18446744073709551616) (hG : Gl W) (hE : Ge W) :
    Calls Tryz.prog 5 #[.float .f64 a, .float .f64 b, .int .u64 u, .string s] W fun e W' => e = .returned (.bool true) ∧ Below W.heap.size W W' := by
  have h1 := run_frombits
  have h2 := run_bits
  have hbe := begun_any W hG
  have HB := Lib.hid hbe
  have HG := Lib.hid hG
  have HE := Lib.hid hE
  obtain ⟨t, ht⟩ : ∃ t : ByteArray, t = ⟨(s.data.toList.take 20).toArray⟩ := ⟨_, rfl⟩
  have cT : ∀ w, Calls Tryz.prog 19 #[.string s, .int .i64 20] w fun e w' => e = .returned (.string t) ∧ w' = w := fun w => by rw [ht]; exact text_cut w s 20
  have tz : t.size ≤ 1000 := by rw [ba_size, ht]; simp only [List.length_take]; omega
  have cN := fun w => norm_any w a
  have cN' := fun w => rnorm_any w a ha
  unfold normV at cN cN'
  obtain ⟨xf, hxf⟩ : ∃ x : Nat, x = bif fnz a && fmay a then a else 0 := ⟨_, rfl⟩
  obtain ⟨xo, hxo⟩ : ∃ o : Bool, o = (!fnz a || fmay a) := ⟨_, rfl⟩
  simp only [← hxf, ← hxo] at cN cN'
  have cM := fun w => may_any w a
  have cM' := fun w => rmay_any w a ha
  have cU := fun w => rmay_any w u hu
  have cO := fun w => of64_any w u
  unfold ofW at cO
  generalize fmay a = ma at cM cM'
  have cL := fun w => less_any w a b ha hb
  have cL' := fun w => rless_any w a b ha hb
  generalize fless a b = la at cL cL'
  have cB := fun w => bits_any w a
  have cB' := fun w => rbits_any w a
  generalize fbits a = ba at cB cB'
  have cP := fun w hG => wput_any w a ha hG
  have cP' := fun w => rput_any w a ha
  obtain ⟨p, hp⟩ : ∃ p : ByteArray, p = ⟨(wput a).toArray⟩ := ⟨_, rfl⟩
  rw [← hp] at cP cP'
  have cQ := fun w hG => wput_any w b hb hG
  obtain ⟨q, hq⟩ : ∃ p : ByteArray, p = ⟨(wput b).toArray⟩ := ⟨_, rfl⟩
  rw [← hq] at cQ
  have wz : ∀ c, c < 18446744073709551616 → (⟨(wput c).toArray⟩ : ByteArray).size ≤ 1000 := fun c hc => by
    rw [ba_size]
    cases hm : fmay c
    · rw [wput_not hm]; simp
    · simp only [wput_len hc hm]; omega
  have pz : p.size ≤ 1000 := by rw [hp]; exact wz a ha
  have qz : q.size ≤ 1000 := by rw [hq]; exact wz b hb
  have ZQ := Lib.hid (And.intro tz (And.intro pz qz))
  have CN := Lib.hid cN
  have CN' := Lib.hid cN'
  have CM := Lib.hid cM
  have CM' := Lib.hid cM'
  have CL := Lib.hid cL
  have CL' := Lib.hid cL'
  have CB := Lib.hid cB
  have CB' := Lib.hid cB'
  have CP := Lib.hid cP
  have CP' := Lib.hid cP'
  have CQ := Lib.hid cQ
  obtain ⟨q1, q2, q3, q4, q5, q6, q7, q8, q9, q10⟩ := zero_facts
  have r1 := fun w => (run_one_by (P := Tryz.prog) 29 w).1
  clear hbe hG hE ht cN cN' cM cM' cL cL' cB cB' cP cP' cQ hp hq wz tz pz qz hxf hxo q1 q3 q4 q5 q6 q8 q9 q10 ha hb hu
  go_enter Tryz.func5, Tryz.ntmps5
  go_upto_region 9 with (first
    | (go_at_call 10; refine HB.out.mono ?_; rintro e w1 ⟨rfl, hb⟩; have L1 := Lib.hid hb; have G1 := Lib.hid (HG.out.below hb); clear hb)
    | (go_at_call 19; refine (cT _).mono ?_; rintro e w' ⟨rfl, hw⟩; replace hw := hw.symm; subst hw)
    | (go_at_call 20; refine (CN.out _).mono ?_; rintro e w' ⟨rfl, hw⟩; replace hw := hw.symm; subst hw)
    | (go_at_call 21; refine (CN'.out _).mono ?_; rintro e w' ⟨rfl, n1, rfl⟩)
    | (go_at_call 18; refine (CM.out _).mono ?_; rintro e w' ⟨rfl, hw⟩; replace hw := hw.symm; subst hw)
    | (go_at_call 22; refine (CM'.out _).mono ?_; rintro e w' ⟨rfl, n2, rfl⟩)
    | (go_at_call 24; refine (CL.out _).mono ?_; rintro e w' ⟨rfl, rfl⟩)
    | (go_at_call 25; refine (CL'.out _).mono ?_; rintro e w' ⟨rfl, hw⟩; replace hw := hw.symm; subst hw)
    | (go_at_call 15; refine (CB.out _).mono ?_; rintro e w' ⟨rfl, hw⟩; replace hw := hw.symm; subst hw)
    | (go_at_call 26; refine (CB'.out _).mono ?_; rintro e w' ⟨rfl, hw⟩; replace hw := hw.symm; subst hw)
    | (go_at_call 16; refine (CP.out _ (HG.out.below (below_drewN' L1.out _))).mono ?_; rintro e w2 ⟨rfl, hb⟩; have L2 := Lib.hid ((below_drewN' L1.out _).trans (hb.mono L1.out.size)); clear hb)
    | (go_at_call 27; refine (CP'.out _).mono ?_; rintro e w3 ⟨rfl, hb⟩; have L3 := Lib.hid (L2.out.trans (hb.mono L2.out.size)); clear hb))
  clear CN CN' CM CM' CL CL' CB CB' CP' L1 L2 G1 cT HB
  have H3 := Lib.hid (Nat.le_refl W.heap.size)
  cases hm : fmay u
  all_goals
    rw [hm] at cU cO
    simp only [cond_true, cond_false] at cO
    have CU := Lib.hid cU
    have CO := Lib.hid cO
    clear cU cO hm
    go_upto_region 13 with (first
      | (go_at_call 14; refine (CO.out _).mono ?_; rintro e w' ⟨rfl, hw⟩; replace hw := hw.symm; subst hw)
      | (go_at_call 22; refine (CU.out _).mono ?_; rintro e w' ⟨rfl, n4, rfl⟩))
    have L4 := Lib.hid (below_drewN' L3.out n4)
    generalize w3.drewN n4 = w4 at L4 ⊢
    clear L3 CU CO q2 q7
    go_wp2_with (first
      | (go_at_call 16; (with_reducible refine (CP.out _ (HG.out.below L4.out)).mono ?_); rintro e w5 ⟨rfl, hb⟩; have L5 := Lib.hid (L4.out.trans (hb.mono L4.out.size)); clear hb)
      | (go_at_call 16; (with_reducible refine (CQ.out _ (HG.out.below L5.out)).mono ?_); rintro e w6 ⟨rfl, hb⟩; have L6 := Lib.hid (L5.out.trans (hb.mono L5.out.size)); clear hb))
    have BQ := Blk.new w6 9 [.string t, .string p, .string q]
    have L7 := Lib.hid (L6.out.alloc L6.out.size (.cells #[.string t, .string p, .string q] 9))
    have B7 : Hid (Blk (w6.alloc (.cells #[.string t, .string p, .string q] 9)) w6.heap.size 9 [.string t, .string p, .string q]) := Lib.hid BQ
    clear BQ
    generalize w6.alloc (.cells #[.string t, .string p, .string q] 9) = w7 at L7 B7 ⊢
    generalize w6.heap.size = g at B7 ⊢
    clear L4 L5 L6 CP CQ H3
    go_loopw [118] (fun i wr => ∃ k : Nat, k ≤ 3 ∧ i = .int .i64 k ∧ Blk wr g 9 [.string t, .string p, .string q] ∧ Below W.heap.size W wr) (fun i _ => 3 - (intOf i).toNat)
    case atStart => exact ⟨0, by omega, rfl, B7.out, L7.out⟩
    case round =>
      obtain ⟨k, hk, rfl, hB, hL⟩ := hrel
      clear B7 L7
      by_cases hlt : k < 3
      · have l1 : (k : Int) < 3 := by omega
        have hcell : ∃ y : ByteArray, wr.cell? ⟨g, k, none⟩ = some (.string y) ∧ y.size ≤ 1000 := by
          obtain ⟨za, zb, zc⟩ := ZQ.out
          have h4 : k = 0 ∨ k = 1 ∨ k = 2 := by omega
          rcases h4 with rfl | rfl | rfl
          · exact ⟨t, hB.cell 0 _ rfl, za⟩
          · exact ⟨p, hB.cell 1 _ rfl, zb⟩
          · exact ⟨q, hB.cell 2 _ rfl, zc⟩
        obtain ⟨y, hy, hyz⟩ := hcell
        have cG := wget_any wr y (by omega) (HG.out.below hL) (HE.out.below hL)
        have cR := fun w => rget_any w y (by omega)
        rw [wgetT, wgetV_eq] at cG
        unfold rgetT at cR
        obtain ⟨f, hf⟩ : ∃ f, f = (rgetV y.data.toList).1 := ⟨_, rfl⟩
        obtain ⟨o, ho⟩ : ∃ o, o = (rgetV y.data.toList).2 := ⟨_, rfl⟩
        rw [← hf, ← ho] at cG
        simp only [← hf, ← ho] at cR
        have CG := Lib.hid cG
        have CR := Lib.hid cR
        have BB := Lib.hid hB
        have LL := Lib.hid hL
        clear cG cR hB hL hf ho hyz
        go_wp2_with (first
          | (go_at_call 17; refine CG.out.mono ?_; rintro e w8 ⟨rfl, hb⟩; have B8 := Lib.hid hb; clear hb)
          | (go_at_call 28; refine (CR.out _).mono ?_; rintro e w9 ⟨rfl, hb⟩; have B9 := Lib.hid (B8.out.trans (hb.mono B8.out.size)); clear hb))
        go_roundw
        case measure => simp [intOf]; omega
        case rel => exact ⟨k + 1, by omega, by go_num, BB.out.below B9.out, LL.out.trans (B9.out.mono LL.out.size)⟩
      · have hk' : k = 3 := by omega
        subst hk'
        go_wp2
        go_ret
        exact ⟨rfl, hL⟩
theorem whenAll_int (W : World) (a b : Nat) (u : Int) (s : ByteArray) (ha : a < 18446744073709551616) (hb : b < 18446744073709551616) (hu : 0 ≤ u ∧ u < 18446744073709551616) (hG : Gl W) (hE : Ge W) :
    Calls Tryz.prog 5 #[.float .f64 a, .float .f64 b, .int .u64 u, .string s] W fun e W' => e = .returned (.bool true) ∧ Below W.heap.size W W' := by
  obtain ⟨v, rfl⟩ : ∃ v : Nat, u = v := ⟨u.toNat, by omega⟩
  exact whenAll_any W a b v s ha hb (by omega) hG hE
end Go.Proofs.YtmnndehoopmmaaaGreatDoor
