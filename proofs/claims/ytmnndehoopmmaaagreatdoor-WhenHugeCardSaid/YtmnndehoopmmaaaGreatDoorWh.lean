/- WhenHuge: the walk of the law's body. -/
import Derived.Test.YtmnndehoopmmaaaGreatDoorWg
import Derived.Test.YtmnndehoopmmaaaGreatDoorWl
import Derived.Test.YtmnndehoopmmaaaGreatDoorNx
import Derived.Test.YtmnndehoopmmaaaGreatDoorQt
namespace Go.Proofs.YtmnndehoopmmaaaGreatDoor
open Go.RowKit
/-- The floats, by their bits. -/
def hugeL : List Nat := [18442240474082181119, 13830554455654793216, 9223372036854775809, 0, 1, 4607182418800017407, 4607182418800017408, 4607182418800017409, 9218868437227405311]
theorem huge_ok : ∀ k : Fin 9, hugeL.getD k 0 < 18446744073709551616 ∧ fmay (hugeL.getD k 0) = true ∧ fnan (hugeL.getD k 0) = false ∧ (k.val = 0 ∨ (fless (hugeL.getD (k - 1) 0) (hugeL.getD k 0) = true ∧ fless (hugeL.getD k 0) (hugeL.getD (k - 1) 0) = false)) := by decide +kernel
theorem huge_ends : fmay 18442240474082181120 = false ∧ fmay 9223372036854775808 = false ∧ fless 18442240474082181120 18442240474082181119 = true ∧ fless 9218868437227405311 9218868437227405312 = true ∧ fless 9218868437227405312 9221120237041090561 = true := by decide +kernel
theorem huge_next : fnan 4607182418800017408 = false ∧ fnan 0 = false ∧ fnan 4611686018427387904 = false ∧ (FloatKind.f64.format.order 4607182418800017408 0 == some Ordering.eq) = false ∧ (FloatKind.f64.format.order 4607182418800017408 4611686018427387904 == some Ordering.eq) = false ∧
    (FloatKind.f64.format.order 0 4607182418800017408 == some Ordering.gt) = false ∧ (FloatKind.f64.format.order 4611686018427387904 4607182418800017408 == some Ordering.gt) = true ∧ (FloatKind.f64.format.order 4607182418800017408 0 == some Ordering.gt) = true := by decide +kernel
theorem Ext.call_same {P : Program} {f : FuncId} {args : Array Value} {w : World} {s : Ext w} {v : Value} (h : Calls P f args s.at_ fun e w' => e = .returned v ∧ w' = s.at_) :
    Calls P f args s.at_ fun e w' => e = .returned v ∧ ∃ s' : Ext w, w' = s'.at_ := h.mono fun _ _ ⟨he, hw⟩ => ⟨he, s, hw⟩
def hugeV : List Value := hugeL.map (Value.float .f64)
theorem hugeV_at (k : Nat) (h : k < 9) : hugeV[k]? = some (.float .f64 (hugeL.getD k 0)) := by
  have : ∀ m : Fin 9, hugeV[m.val]? = some (.float .f64 (hugeL.getD m.val 0)) := by intro m; rcases m with ⟨m, hm⟩; rcases m with _ | _ | _ | _ | _ | _ | _ | _ | _ | m <;> first | rfl | omega
  exact this ⟨k, h⟩
set_option maxRecDepth 20000 in
set_option maxHeartbeats 8000000 in
theorem whenHuge_any (W : World) (hG : Gl W) (hE : Ge W) : Calls Tryz.prog 6 #[] W fun e W' => e = .returned (.bool true) ∧ Below W.heap.size W W' := by
  obtain ⟨n1, n2, n3, n4, n5, n6, n7, n8⟩ := huge_next
  have cDn : ∀ w, Calls Tryz.prog 29 #[.float .f64 4607182418800017408, .float .f64 0] w fun e w' => e = .returned (.float .f64 4607182418800017407) ∧ w' = w := fun w => next_dn w 4607182418800017408 0 4607182418800017407 n1 n2 n4 n4 n6 n8 (by decide)
  have cUp : ∀ w, Calls Tryz.prog 29 #[.float .f64 4607182418800017408, .float .f64 4611686018427387904] w fun e w' => e = .returned (.float .f64 4607182418800017409) ∧ w' = w := fun w => next_up w 4607182418800017408 4611686018427387904 4607182418800017409 n1 n3 n5 n4 n7 n8 (by decide)
  have CDn := Lib.hid cDn
  have CUp := Lib.hid cUp
  have HG := Lib.hid hG
  have HE := Lib.hid hE
  clear n1 n2 n3 n4 n5 n6 n7 n8 cDn cUp hG hE
  go_enter Tryz.func6, Tryz.ntmps6
  go_upto_region 2 with (first
    | (go_at_call 29; (with_reducible refine (CDn.out _).mono ?_); rintro e w' ⟨rfl, hw⟩; replace hw := hw.symm; subst hw)
    | (go_at_call 29; (with_reducible refine (CUp.out _).mono ?_); rintro e w' ⟨rfl, hw⟩; replace hw := hw.symm; subst hw))
  obtain ⟨w1, hw1⟩ : ∃ w1, w1 = W.alloc (.cells hugeV.toArray 29) := ⟨_, rfl⟩
  have hw2 : w1 = W.alloc (.cells #[.float .f64 18442240474082181119, .float .f64 13830554455654793216, .float .f64 9223372036854775809, .float .f64 0, .float .f64 1, .float .f64 4607182418800017407, .float .f64 4607182418800017408, .float .f64 4607182418800017409, .float .f64 9218868437227405311] 29) := hw1
  rw [← hw2]
  have B0 := Blk.new W 29 hugeV
  have L0 := (Below.refl W.heap.size W).alloc (Nat.le_refl _) (.cells hugeV.toArray 29)
  rw [← hw1] at B0 L0
  have HW := Lib.hid (Nat.le_refl W.heap.size)
  obtain ⟨g, hg⟩ : ∃ g, g = W.heap.size := ⟨_, rfl⟩
  rw [← hg] at B0
  have B1 := Lib.hid B0
  have L1 := Lib.hid L0
  have e0 : (Value.slice (some ⟨W.heap.size, 0, none⟩) 9 9) = (Value.slice (some ⟨g, 0, none⟩) 9 9) := by rw [hg]
  rw [e0]
  clear hw1 hw2 B0 L0 e0 hg
  go_wp2
  go_loopw [10] (fun i wr => ∃ k : Nat, k ≤ 9 ∧ i = .int .i64 k ∧ Blk wr g 29 hugeV ∧ Below W.heap.size W wr) (fun i _ => 9 - (intOf i).toNat)
  case atStart => exact ⟨0, by omega, rfl, B1.out, L1.out⟩
  case round =>
    obtain ⟨k, hk, rfl, hB, hL⟩ := hrel
    clear B1 L1
    have HB := Lib.hid hB
    have HL := Lib.hid hL
    by_cases hlt : k < 9
    · have k9 : (k : Int) < 9 := by omega
      obtain ⟨x1, x2, x3, x4⟩ := huge_ok ⟨k, hlt⟩
      have hv := hugeV_at k hlt
      have c0 := hB.cell k _ hv
      simp only [] at x1 x2 x3 x4
      by_cases h0 : k = 0
      · subst h0
        clear x4
        generalize hugeL.getD 0 0 = x at x1 x2 x3 c0 hv
        have C0 := Lib.hid hv
        clear hv
        have cM : ∀ w, Calls Tryz.prog 18 #[.float .f64 x] w fun e w' => e = .returned (.bool true) ∧ w' = w := fun w => (may_any w x).mono (by rintro e w' ⟨rfl, rfl⟩; exact ⟨by rw [x2], rfl⟩)
        have cB : ∀ w, Calls Tryz.prog 15 #[.float .f64 x] w fun e w' => e = .returned (.int .u64 (x : Int)) ∧ w' = w := fun w => (bits_any w x).mono (by rintro e w' ⟨rfl, rfl⟩; exact ⟨by unfold fbits; rw [x3]; rfl, rfl⟩)
        have cP := fun w hG => wput_any w x x1 hG
        have cT := fun w hG hE => wget_any w ⟨(wput x).toArray⟩ (by rw [ba_size]; simp only [wput_len x1 x2]; omega) hG hE
        unfold wgetT at cT
        simp only [wgetV_put x1 x2] at cT
        generalize (⟨(wput x).toArray⟩ : ByteArray) = p at cP cT
        have CM := Lib.hid cM
        have CB := Lib.hid cB
        have CP := Lib.hid cP
        have CT := Lib.hid cT
        clear cM cB cP cT x1 x2 x3 hB hL hk
        go_upto_region 5 with fail
        go_quiet ((go_at_call 18; exact Calls.quiet_of_same (CM.out _)))
        go_wp2_with (first
          | (go_at_call 16; refine (CP.out _ (HG.out.below (below_drewN' HL.out _))).mono ?_; rintro e w4 ⟨rfl, h4⟩; have L4 := Lib.hid ((below_drewN' HL.out _).trans (h4.mono HL.out.size)); have B4 := Lib.hid ((HB.out.drewN _).below h4); clear h4)
          | (go_at_call 17; refine (CT.out _ (HG.out.below L4.out) (HE.out.below L4.out)).mono ?_; rintro e w5 ⟨rfl, h5⟩; have L5 := Lib.hid (L4.out.trans (h5.mono L4.out.size)); have B5 := Lib.hid (B4.out.below h5); clear h5))
        have c5 := B5.out.cell 0 _ C0.out
        go_quiet ((go_at_call 15; exact Calls.quiet_of_same (CB.out _)))
        go_wp2
        go_roundw
        case measure => simp [intOf]
        case rel => exact ⟨1, by omega, by go_num, B5.out.drewN _, below_drewN' L5.out _⟩
      · have x4' := x4.resolve_left h0
        have c1 := hB.cell (k - 1) _ (hugeV_at (k - 1) (by omega))
        have y1 := (huge_ok ⟨k - 1, by omega⟩).1
        simp only [] at y1
        generalize hugeL.getD k 0 = x at x1 x2 x3 x4' c0 hv
        have C0 := Lib.hid hv
        clear hv
        generalize hugeL.getD (k - 1) 0 = y at y1 x4' c1
        have kw : wrap64 ((k : Int) - 1) = ((k - 1 : Nat) : Int) := by unfold wrap64; omega
        have kp : (0 : Int) < (k : Int) := by omega
        have kn : 0 < k := by omega
        have k8 : ((k - 1 : Nat) : Int) < 9 := by omega
        have cM : ∀ w, Calls Tryz.prog 18 #[.float .f64 x] w fun e w' => e = .returned (.bool true) ∧ w' = w := fun w => (may_any w x).mono (by rintro e w' ⟨rfl, rfl⟩; exact ⟨by rw [x2], rfl⟩)
        have cL : ∀ w, Calls Tryz.prog 24 #[.float .f64 y, .float .f64 x] w fun e w' => e = .returned (.bool true) ∧ w' = w := fun w => (less_any w y x y1 x1).mono (by rintro e w' ⟨rfl, rfl⟩; exact ⟨by rw [x4'.1], rfl⟩)
        have cN : ∀ w, Calls Tryz.prog 24 #[.float .f64 x, .float .f64 y] w fun e w' => e = .returned (.bool false) ∧ w' = w := fun w => (less_any w x y x1 y1).mono (by rintro e w' ⟨rfl, rfl⟩; exact ⟨by rw [x4'.2], rfl⟩)
        have cB : ∀ w, Calls Tryz.prog 15 #[.float .f64 x] w fun e w' => e = .returned (.int .u64 (x : Int)) ∧ w' = w := fun w => (bits_any w x).mono (by rintro e w' ⟨rfl, rfl⟩; exact ⟨by unfold fbits; rw [x3]; rfl, rfl⟩)
        have cP := fun w hG => wput_any w x x1 hG
        have cT := fun w hG hE => wget_any w ⟨(wput x).toArray⟩ (by rw [ba_size]; simp only [wput_len x1 x2]; omega) hG hE
        unfold wgetT at cT
        simp only [wgetV_put x1 x2] at cT
        generalize (⟨(wput x).toArray⟩ : ByteArray) = p at cP cT
        have CM := Lib.hid cM
        have CL := Lib.hid cL
        have CN := Lib.hid cN
        have CB := Lib.hid cB
        have CP := Lib.hid cP
        have CT := Lib.hid cT
        clear cM cL cN cB cP cT x1 x2 x3 x4 x4' y1 hB hL h0 hlt hk
        go_upto_region 5 with fail
        go_quiet ((first
          | (go_at_call 18; exact Calls.quiet_of_same (CM.out _))
          | (go_at_call 24; with_reducible exact Calls.quiet_of_same (CL.out _))
          | (go_at_call 24; with_reducible exact Calls.quiet_of_same (CN.out _))))
        go_wp2_with (first
          | (go_at_call 16; refine (CP.out _ (HG.out.below (below_drewN' HL.out _))).mono ?_; rintro e w4 ⟨rfl, h4⟩; have L4 := Lib.hid ((below_drewN' HL.out _).trans (h4.mono HL.out.size)); have B4 := Lib.hid ((HB.out.drewN _).below h4); clear h4)
          | (go_at_call 17; refine (CT.out _ (HG.out.below L4.out) (HE.out.below L4.out)).mono ?_; rintro e w5 ⟨rfl, h5⟩; have L5 := Lib.hid (L4.out.trans (h5.mono L4.out.size)); have B5 := Lib.hid (B4.out.below h5); clear h5))
        have c5 := B5.out.cell k _ C0.out
        go_quiet ((go_at_call 15; exact Calls.quiet_of_same (CB.out _)))
        go_wp2
        go_roundw
        case measure => simp [intOf]; omega
        case rel => exact ⟨k + 1, by omega, by go_num, B5.out.drewN _, below_drewN' L5.out _⟩
    · have hk' : k = 9 := by omega
      subst hk'
      clear hk hlt CDn CUp
      have v0 := hB.cell 0 _ (hugeV_at 0 (by omega))
      have v8 := hB.cell 8 _ (hugeV_at 8 (by omega))
      obtain ⟨q1, q2, q3, q4, q5⟩ := huge_ends
      have r0 := (huge_ok ⟨0, by omega⟩).1
      have r8 := (huge_ok ⟨8, by omega⟩).1
      simp only [] at r0 r8
      rw [show (18442240474082181119 : Nat) = hugeL.getD 0 0 from rfl] at q3
      rw [show (9218868437227405311 : Nat) = hugeL.getD 8 0 from rfl] at q4
      obtain ⟨ni, hni⟩ : ∃ n : Nat, n = 18442240474082181120 := ⟨_, rfl⟩
      obtain ⟨pi, hpi⟩ : ∃ n : Nat, n = 9218868437227405312 := ⟨_, rfl⟩
      obtain ⟨nz, hnz⟩ : ∃ n : Nat, n = 9223372036854775808 := ⟨_, rfl⟩
      obtain ⟨nn, hnn⟩ : ∃ n : Nat, n = 9221120237041090561 := ⟨_, rfl⟩
      have cIn : ∀ w, Calls Tryz.prog 30 #[.int .i64 (-1)] w fun e w' => e = .returned (.float .f64 ni) ∧ w' = w := fun w => by rw [hni]; exact inf_neg w
      have cIp : ∀ w, Calls Tryz.prog 30 #[.int .i64 1] w fun e w' => e = .returned (.float .f64 pi) ∧ w' = w := fun w => by rw [hpi]; exact inf_pos w
      have cNz : ∀ w, Calls Tryz.prog 31 #[.float .f64 0, .float .f64 13830554455654793216] w fun e w' => e = .returned (.float .f64 nz) ∧ w' = w := fun w => by rw [hnz]; exact copysign_neg0 w
      have cNn : ∀ w, Calls Tryz.prog 32 #[] w fun e w' => e = .returned (.float .f64 nn) ∧ w' = w := fun w => by rw [hnn]; exact nan_any w
      rw [← hni] at q1 q3
      rw [← hnz] at q2
      rw [← hpi] at q4 q5
      rw [← hnn] at q5
      have bni : ni < 18446744073709551616 := by omega
      have bpi : pi < 18446744073709551616 := by omega
      have bnn : nn < 18446744073709551616 := by omega
      generalize hugeL.getD 0 0 = x0 at v0 q3 r0
      generalize hugeL.getD 8 0 = x8 at v8 q4 r8
      have cM1 : ∀ w, Calls Tryz.prog 18 #[.float .f64 ni] w fun e w' => e = .returned (.bool false) ∧ w' = w := fun w => (may_any w ni).mono (by rintro e w' ⟨rfl, rfl⟩; exact ⟨by rw [q1], rfl⟩)
      have cM2 : ∀ w, Calls Tryz.prog 18 #[.float .f64 nz] w fun e w' => e = .returned (.bool false) ∧ w' = w := fun w => (may_any w nz).mono (by rintro e w' ⟨rfl, rfl⟩; exact ⟨by rw [q2], rfl⟩)
      have cL1 : ∀ w, Calls Tryz.prog 24 #[.float .f64 ni, .float .f64 x0] w fun e w' => e = .returned (.bool true) ∧ w' = w := fun w => (less_any w ni x0 bni r0).mono (by rintro e w' ⟨rfl, rfl⟩; exact ⟨by rw [q3], rfl⟩)
      have cL2 : ∀ w, Calls Tryz.prog 24 #[.float .f64 x8, .float .f64 pi] w fun e w' => e = .returned (.bool true) ∧ w' = w := fun w => (less_any w x8 pi r8 bpi).mono (by rintro e w' ⟨rfl, rfl⟩; exact ⟨by rw [q4], rfl⟩)
      have cL3 : ∀ w, Calls Tryz.prog 24 #[.float .f64 pi, .float .f64 nn] w fun e w' => e = .returned (.bool true) ∧ w' = w := fun w => (less_any w pi nn bpi bnn).mono (by rintro e w' ⟨rfl, rfl⟩; exact ⟨by rw [q5], rfl⟩)
      have HS := Lib.hid (fun w (hb : Below wr.heap.size wr w) => begun_any w (HG.out.below (hL.trans (hb.mono hL.size))))
      have e0 : ∀ s : Ext wr, s.at_.cell? ⟨g, 0, none⟩ = some (.float .f64 x0) := fun s => (s.below.cell (World.block_lt_of_cell? wr _ v0)).trans v0
      have e8 : ∀ s : Ext wr, s.at_.cell? ⟨g, 8, none⟩ = some (.float .f64 x8) := fun s => (s.below.cell (World.block_lt_of_cell? wr _ v8)).trans v8
      have CIn := Lib.hid cIn
      have CIp := Lib.hid cIp
      have CNz := Lib.hid cNz
      have CNn := Lib.hid cNn
      have CM1 := Lib.hid cM1
      have CM2 := Lib.hid cM2
      have CL1 := Lib.hid cL1
      have CL2 := Lib.hid cL2
      have CL3 := Lib.hid cL3
      clear hni hpi hnz hnn q1 q2 q3 q4 q5 bni bpi bnn r0 r8 cIn cIp cNz cNn cM1 cM2 cL1 cL2 cL3 hB hL v0 v8 HB
      have hemp := ext_nonempty wr
      go_upto_region 11 with fail
      refine wp_region_ext (by kernel_rfl) (by kernel_rfl) ?_
      repeat (go_big_quiet_step (first
        | (go_at_call 10; exact Ext.call (HS.out _ (Ext.below _)))
        | (go_at_call 30; with_reducible exact Ext.call_same (CIn.out _))
        | (go_at_call 30; with_reducible exact Ext.call_same (CIp.out _))
        | (go_at_call 31; exact Ext.call_same (CNz.out _))
        | (go_at_call 32; exact Ext.call_same (CNn.out _))
        | (go_at_call 18; with_reducible exact Ext.call_same (CM1.out _))
        | (go_at_call 18; with_reducible exact Ext.call_same (CM2.out _))
        | (go_at_call 24; with_reducible exact Ext.call_same (CL1.out _))
        | (go_at_call 24; with_reducible exact Ext.call_same (CL2.out _))
        | (go_at_call 24; with_reducible exact Ext.call_same (CL3.out _))))
      refine wpQuiet_nil ?_
      rintro _ ⟨s9, rfl⟩
      go_wp2
      go_ret
      exact ⟨rfl, HL.out.trans (s9.below.mono HL.out.size)⟩
end Go.Proofs.YtmnndehoopmmaaaGreatDoor
