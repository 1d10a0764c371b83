/- ObjectNone: nothing: the law's walk. -/
import Derived.Test.YticcianbphljpaaGreatDoorP18x
import Derived.Test.YticcianbphljpaaGreatDoorP17x
import Derived.Test.YticcianbphljpaaGreatDoorJl
import Derived.Test.YticcianbphljpaaGreatDoorP14x
import Derived.Test.YticcianbphljpaaGreatDoorBn
import Derived.Test.YticcianbphljpaaGreatDoorP7x
import Derived.Test.YticcianbphljpaaGreatDoorP8x
namespace Go.Proofs.YticcianbphljpaaGreatDoor
open Go.RowKit
theorem noComMay : mayC noCom = true := by
  have h1 : fmay 0 = true := by decide +kernel
  have h2 : sortI [] = [] := by rw [← putI_eq]; rfl
  unfold mayC noCom
  simp [h1, h2]
theorem noObAt (w : World) : ObAt w noOb none 0 0 none 0 0 :=
  ⟨⟨rfl, fun h => absurd h (Nat.lt_irrefl 0), fun u hu => by cases hu⟩, Nat.le_refl _, Nat.zero_le _, fun e he => absurd he List.not_mem_nil, Nat.zero_le _, noComAt w⟩
set_option maxRecDepth 20000 in
set_option maxHeartbeats 6400000 in
theorem objectNoneLaw_any (W : World) (hG : Gl W) (hE : Ge W) :
    Calls Tryz.prog 12 #[] W fun e W' => e = .returned (.bool true) ∧ Below W.heap.size W W' := by
  have cT := fun w hw => treeGet_any w ⟨#[]⟩ [] rfl (by decide) hw
  have cC := fun w hw hv => commitGet_any w ⟨#[]⟩ [] rfl (by decide) hw hv
  have c4 := fun w hw hv => objGet_0 w 4 ⟨#[]⟩ [] rfl (by decide) hw hv (by decide)
  have c1 := fun w hw hv => objGet_1 w 1 ⟨#[]⟩ [] rfl (by decide) hw hv rfl
  unfold GetTPost at cT
  unfold GetCPost at cC
  rw [getC_nil] at cC
  have gT : getT [] = some [] := rfl
  rw [gT] at cT
  have g4 : getO 4 [] = (noOb, 1) := rfl
  have g1 : getO 1 [] = (⟨1, [], [], noCom⟩, 0) := rfl
  unfold GetOPost at c4 c1
  rw [g4] at c4
  rw [g1] at c1
  obtain ⟨o1, ho1⟩ : ∃ o : Obt, o = ⟨1, [], [], noCom⟩ := ⟨_, rfl⟩
  have hk1 : ∀ A n c B m d, (objL o1 A n c B m d)[0]? = some (.int .i64 1) := fun A n c B m d => by rw [ho1]; rfl
  have hln : linksO o1 = [] := by rw [ho1]; rfl
  have hk23 : o1.kd ≠ 2 ∧ o1.kd ≠ 3 := by rw [ho1]; exact ⟨by decide, by decide⟩
  rw [← ho1] at c1
  have c4' : ∀ w, Gl w → Ge w → Calls Tryz.prog 34 #[.int .i64 4, .string ⟨#[]⟩] w fun e w' => e = .returned (.tuple #[.agg zeroO.toArray, .int .i64 1]) ∧ Below w.heap.size w w' := fun w hw hv => (c4 w hw hv).mono fun e w' ⟨h1, h2⟩ => ⟨h2, h1⟩
  have c1' : ∀ w, Gl w → Ge w → Calls Tryz.prog 34 #[.int .i64 1, .string ⟨#[]⟩] w fun e w' => ∃ A n c B m d, e = .returned (.tuple #[.agg (objL o1 A n c B m d).toArray, .int .i64 0]) ∧ Below w.heap.size w w' := fun w hw hv => (c1 w hw hv).mono fun e w' ⟨h1, h2⟩ => by
    rw [if_pos rfl] at h2
    obtain ⟨A, c, B, d, he, _, _⟩ := h2
    exact ⟨A, _, c, B, _, d, he, h1⟩
  have cM := fun w => objMay_any w noOb none 0 0 none 0 0 (noObAt w) (by decide) (by decide)
  have hm0 : mayO noOb = false := rfl
  rw [hm0] at cM
  have hz0 : objL noOb none 0 0 none 0 0 = zeroO := rfl
  rw [hz0] at cM
  have cL := fun w A n c B m d => links_none w o1 A n c B m d hk23
  rw [hln] at cL
  unfold LinksPost at cL
  have cTM := fun w => treeMay_any w none 0 0 [] ⟨rfl, fun h => absurd h (Nat.lt_irrefl 0), fun u hu => by cases hu⟩ (by decide) (fun e he => absurd he List.not_mem_nil)
  have hmt : mayT [] = true := rfl
  rw [hmt] at cTM
  have cN := fun w => treeName_any w ⟨#[]⟩ [] rfl (by decide)
  have hnn : nameB [] = false := rfl
  rw [hnn] at cN
  have cCM := fun w => commitMay_any w noCom none 0 0 (noComAt w) (by decide)
  rw [noComMay] at cCM
  have hzc : comL noCom none 0 0 = zeroC := rfl
  rw [hzc] at cCM
  have cB := fun w hw hv => begun6_any w hw hv
  have CT := Lib.hid cT
  have CC := Lib.hid cC
  have C4 := Lib.hid c4'
  have C1 := Lib.hid c1'
  have CM := Lib.hid cM
  have CL := Lib.hid cL
  have CTM := Lib.hid cTM
  have CN := Lib.hid cN
  have CCM := Lib.hid cCM
  have CB := Lib.hid cB
  have HK := Lib.hid hk1
  have HG := Lib.hid hG
  have HE := Lib.hid hE
  clear cT cC c4 c1 c4' c1' cM cL cTM cN cCM cB hk1 hln hk23 ho1 g1 g4 gT hm0 hz0 hmt hnn hzc hG hE
  go_enter Tryz.func12, Tryz.ntmps12
  go_upto_region 3 with (first
    | (go_at_call 24; refine (CT.out _ HG.out).mono ?_; rintro e w1 ⟨A1, c1, rfl, _, hb⟩; have L1 := Lib.hid hb; clear hb)
    | (go_at_call 21; refine (CC.out _ (HG.out.below L1.out) (HE.out.below L1.out)).mono ?_; rintro e w2 ⟨rfl, hb⟩; have L2 := Lib.hid (L1.out.trans (hb.mono L1.out.size)); clear hb)
    | (refine wpl_storeS rfl 34 (.tmp 3) _ rfl w2.heap.size zeroC rfl rfl 34 zeroC (Blk.new w2 _ _) infoZC rfl (comL_one _ _ _ _) ?_))
  generalize hw3 : World.setRow _ _ _ = w3
  have L3 : Hid (Below W.heap.size W w3) := Lib.hid (L2.out.trans (Below.mono (by rw [← hw3]; exact below_setRow' ((Below.refl _ _).alloc (Nat.le_refl _) _) (Nat.le_refl _) _) L2.out.size))
  clear hw3 L1 L2 CT CC
  generalize w2.heap.size = g3
  go_upto_region 4 with (first
    | (go_at_call 34; refine (C4.out _ (HG.out.below L3.out) (HE.out.below L3.out)).mono ?_; rintro e w4 ⟨rfl, hb⟩; have L4 := Lib.hid (L3.out.trans (hb.mono L3.out.size)); clear hb)
    | (refine wpl_storeS rfl 64 (.tmp 5) _ rfl w4.heap.size zeroO rfl rfl 64 zeroO (Blk.new w4 _ _) infoZO rfl zeroO_one ?_))
  generalize hw5 : World.setRow _ _ _ = w5
  have L5 : Hid (Below W.heap.size W w5) := Lib.hid (L4.out.trans (Below.mono (by rw [← hw5]; exact below_setRow' ((Below.refl _ _).alloc (Nat.le_refl _) _) (Nat.le_refl _) _) L4.out.size))
  clear hw5 L3 L4 C4
  generalize w4.heap.size = g5
  go_upto_region 5 with (first
    | (go_at_call 34; refine (C1.out _ (HG.out.below L5.out) (HE.out.below L5.out)).mono ?_; rintro e w6 ⟨A6, n6, c6, B6, m6, d6, rfl, hb⟩; have L6 := Lib.hid (L5.out.trans (hb.mono L5.out.size)); clear hb)
    | (refine wpl_storeS rfl 64 (.tmp 7) _ rfl w6.heap.size (objL o1 A6 n6 c6 B6 m6 d6) rfl rfl 64 zeroO (Blk.new w6 _ _) (infoO _ _ _ _ _ _ _) (by rw [objL_len]; rfl) (objL_one _ _ _ _ _ _ _) ?_))
  generalize hw7 : World.setRow _ _ _ = w7
  have S7 : Below w6.heap.size w6 w7 := by rw [← hw7]; exact below_setRow' ((Below.refl _ _).alloc (Nat.le_refl _) _) (Nat.le_refl _) _
  have K7 : Hid (Blk w7 w6.heap.size 64 (objL o1 A6 n6 c6 B6 m6 d6)) := Lib.hid (by rw [← hw7]; exact (Blk.new w6 _ zeroO).row _)
  have L7 := Lib.hid (L6.out.trans (S7.mono L6.out.size))
  have I7 := Lib.hid (infoO o1 A6 n6 c6 B6 m6 d6)
  have Z7 := Lib.hid (HK.out A6 n6 c6 B6 m6 d6)
  have V7 := Lib.hid (fun w => CL.out w A6 n6 c6 B6 m6 d6)
  clear hw7 S7 L5 L6 C1 CL HK
  generalize objL o1 A6 n6 c6 B6 m6 d6 = v7 at K7 I7 Z7 V7
  generalize w6.heap.size = g7 at K7 ⊢
  go_wp2_with (first
    | (go_at_call 13; refine (CB.out _ (HG.out.below L7.out) (HE.out.below L7.out)).mono ?_; rintro e w8 ⟨rfl, hb⟩; have K8 := Lib.hid (K7.out.below hb); have y8 := K8.out.cell 0 _ Z7.out; have L8 := Lib.hid (L7.out.trans (hb.mono L7.out.size)); clear hb)
    | (refine wpl_guard (by rfl) ?_; refine wpl_buildP rfl 64 _ rfl zeroO (by kernel_rfl) ?_)
    | (go_at_call 38; refine (CM.out _).mono ?_; rintro e w9 ⟨rfl, hb⟩; have K9 := Lib.hid (K8.out.below hb); have L9 := Lib.hid (L8.out.trans (hb.mono L8.out.size)); clear hb)
    | (refine wpl_guard (by rfl) ?_; refine wpl_loadS rfl 64 (.tmp 7) rfl ⟨g7, 0, none⟩ rfl v7 Tryz.isAgg64 I7.out (fun j u hu => by rw [addr_row _ rfl, Nat.zero_add]; exact K9.out.cell j u hu) ?_)
    | (go_at_call 39; refine (V7.out _).mono ?_; rintro e wa ⟨Aa, ca, rfl, _, hb⟩; have La := Lib.hid (L9.out.trans (hb.mono L9.out.size)); clear hb)
    | (go_at_call 15; refine (CTM.out _).mono ?_; rintro e wb ⟨rfl, hb⟩; have Lb := Lib.hid (La.out.trans (hb.mono La.out.size)); clear hb)
    | (go_at_call 46; refine (CN.out _).mono ?_; rintro e wd ⟨rfl, hb⟩; have Ld := Lib.hid (Lb.out.trans (hb.mono Lb.out.size)); clear hb)
    | (refine wpl_guard (by rfl) ?_; refine wpl_buildP rfl 34 _ rfl zeroC (by kernel_rfl) ?_)
    | (go_at_call 28; refine (CCM.out _).mono ?_; rintro e wf ⟨rfl, hb⟩; have Lf := Lib.hid (Ld.out.trans (hb.mono Ld.out.size)); clear hb))
  go_ret
  exact ⟨rfl, Lf.out⟩
end Go.Proofs.YticcianbphljpaaGreatDoor
