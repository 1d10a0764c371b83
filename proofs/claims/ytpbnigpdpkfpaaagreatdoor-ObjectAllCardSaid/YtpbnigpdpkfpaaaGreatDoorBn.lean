/- colporteurlaw6.begun: one of each: the walk. -/
import Derived.Test.YtpbnigpdpkfpaaaGreatDoorP16x
import Derived.Test.YtpbnigpdpkfpaaaGreatDoorP15x
namespace Go.Proofs.YtpbnigpdpkfpaaaGreatDoor
open Go.RowKit
set_option maxHeartbeats 800000 in
theorem begun1_any (W : World) (hG : Gl W) : Calls Tryz.prog 64 #[] W fun e W' => e = .returned (.bool true) ∧ Below W.heap.size W W' := by
  have cB := begun_any W hG
  have CB := Lib.hid cB
  clear cB hG
  go_enter Tryz.func64, Tryz.ntmps64
  go_wp2_with (go_at_call 123; refine CB.out.mono ?_; rintro e w1 ⟨rfl, hb⟩; have B := Lib.hid hb; clear hb)
  go_ret
  exact ⟨rfl, B.out⟩
set_option maxRecDepth 20000 in
set_option maxHeartbeats 16000000 in
theorem begun6_any (W : World) (hG : Gl W) (hE : Ge W) : Calls Tryz.prog 15 #[] W fun e W' => e = .returned (.bool true) ∧ Below W.heap.size W W' := by
  obtain ⟨tb, htb⟩ : ∃ tb : ByteArray, tb = ⟨(treeB ents2).toArray⟩ := ⟨_, rfl⟩
  obtain ⟨cb, hcb⟩ : ∃ cb : ByteArray, cb = ⟨(commitB com7).toArray⟩ := ⟨_, rfl⟩
  have tbd : tb.data.toList = treeB ents2 := by rw [htb]
  have cbd : cb.data.toList = commitB com7 := by rw [hcb]
  have tz : tb.size = 72 := by rw [ba_size, tbd]; decide +kernel
  have cz : cb.size ≤ 1000 := by rw [ba_size, cbd]; decide +kernel
  have cPut := fun w A c hs => treePut_any w A 2 c ents2 hs (by decide) ents2_fit
  unfold putV at cPut
  rw [ents2_may, cond_true, ← htb] at cPut
  have cGet := fun w hw => treeGet_any w tb (treeB ents2) tbd.symm (by omega) hw
  unfold GetTPost at cGet
  rw [ents2_get] at cGet
  have cCPut := fun w A d h hw => commitPut_any w com7 A 1 d h (by decide) hw
  unfold putCV at cCPut
  rw [com7_may, cond_true, ← hcb] at cCPut
  have cCGet := fun w hw hv => commitGet_any w cb (commitB com7) cbd.symm (by omega) hw hv
  unfold GetCPost at cCGet
  rw [com7_get] at cCGet
  have cOPut := fun w A k h hw => objPut_tree w ob2 A 2 k none 0 0 h (by decide) (by decide) hw rfl ob2_may
  unfold putOV at cOPut
  have hpo : putO ob2 = treeB ents2 := rfl
  rw [ob2_may, cond_true, hpo, ← htb] at cOPut
  have cOGet := fun w hw hv => objGet_2 w 2 tb (treeB ents2) tbd.symm (by omega) hw hv rfl
  unfold GetOPost at cOGet
  rw [ob2_get] at cOGet
  have cOId := fun w A k h hw => objId_tree w ob2 A 2 k none 0 0 h (by decide) (by decide) hw rfl ob2_may
  unfold idOV at cOId
  rw [ob2_may, cond_true, hpo] at cOId
  have cLk := fun w A k h => links_tree w ob2 A 2 k none 0 0 h (by decide) rfl
  unfold LinksPost at cLk
  have cFd := fun w A c hs => treeFind_any w A 2 c ents2 hs (by decide) ⟨#[98]⟩ [98] rfl
  rw [ents2_find] at cFd
  have cPa := fun w hw => treePath_any w ⟨#[97, 47, 98]⟩ [97, 47, 98] rfl (by decide +kernel) hw
  unfold PathPost at cPa
  rw [path_ab] at cPa
  have cRi := fun w => rid_any w 2 tb (treeB ents2) tbd.symm (by omega)
  have e8 : ob2.kd = 2 := rfl
  rw [e8] at cOId
  obtain ⟨sid, hsid⟩ : ∃ sid : Idt, sid = ⟨sha256 (ofL 2 (treeB ents2)), sha256_length _⟩ := ⟨_, rfl⟩
  have hsv : Bs (sha256 (ofL 2 (treeB ents2))) = encI sid := by rw [hsid]; rfl
  rw [hsv] at cOId
  simp only [hsv] at cRi
  have IS := Lib.hid (infoId sid)
  have PS := Lib.hid (encI_one sid)
  have LS := Lib.hid (encI_len sid)
  clear hsid hsv e8
  have e2 : ents2.length = 2 := rfl
  have e3 : com7.ps.length = 1 := rfl
  have e4 : ob2.ents.length = 2 := rfl
  have e5 : ob2.com.ps.length = 0 := rfl
  have e6 : (linksO ob2).length = 2 := rfl
  have e7 : ([[97], [98]] : List (List UInt8)).length = 2 := rfl
  simp only [e2] at cGet
  simp only [e3] at cCGet
  simp only [if_true, e4, e5] at cOGet
  simp only [e6] at cLk
  simp only [e7] at cPa
  have CPut := Lib.hid cPut
  have CGet := Lib.hid cGet
  have CCPut := Lib.hid cCPut
  have CCGet := Lib.hid cCGet
  have COPut := Lib.hid cOPut
  have COGet := Lib.hid cOGet
  have COId := Lib.hid cOId
  have CLk := Lib.hid cLk
  have CFd := Lib.hid cFd
  have CPa := Lib.hid cPa
  have CRi := Lib.hid cRi
  have HG := Lib.hid hG
  have HE := Lib.hid hE
  clear hG hE e2 e3 e4 e5 e6 e7 hpo tbd cbd cz htb hcb cPut cGet cCPut cCGet cOPut cOGet cOId cLk cFd cPa cRi
  have zI := zI_eq
  go_enter Tryz.func15, Tryz.ntmps15
  go_upto_region 2 with (first | (refine wpl_buildP rfl 24 [(0, .const (.int .u8 1))] rfl (encI (idOf 1)) (by kernel_rfl) ?_) | (refine wpl_buildP rfl 24 [(0, .const (.int .u8 2))] rfl (encI (idOf 2)) (by kernel_rfl) ?_) | (refine wpl_buildP rfl 99 [(0, .const (.string ⟨#[97]⟩)), (2, .tmp 23)] rfl (encE ent1) built_e1 ?_) | (refine wpl_buildP rfl 99 [(0, .const (.string ⟨#[98]⟩)), (1, .const (.bool true)), (2, .tmp 25)] rfl (encE ent2) built_e2 ?_) | (refine wpl_buildE entE rfl 22 99 2 _ rfl ents2 rfl rfl (.agg zeroE.toArray) 56 Tryz.underlying22 (by kernel_rfl) (by decide) (by decide) ?_))
  generalize hw1 : World.alloc _ _ = w1
  have S0 : Hid (Below W.heap.size W w1) := Lib.hid (by rw [← hw1]; exact (Below.refl _ _).alloc (Nat.le_refl _) _)
  have SE : Hid (∀ w, Below w1.heap.size w1 w → Src w entE.k (some ⟨W.heap.size, 0, none⟩) 2 (entE.row ents2)) := Lib.hid fun w hw => entE.src_below (by rw [← hw1]; exact row_src entE W 99 ents2) hw
  clear hw1
  obtain ⟨g1, hg1⟩ : ∃ g1, g1 = W.heap.size := ⟨_, rfl⟩
  rw [← hg1] at SE ⊢
  clear hg1
  as_aux_lemma =>
    go_upto_region 3 with (go_at_call 58; refine (CPut.out _ _ _ (SE.out _ (Below.refl _ _))).mono ?_; rintro e w2 ⟨rfl, hb⟩; have S1 := Lib.hid hb; clear hb)
    as_aux_lemma =>
      go_upto_region 4 with (go_at_call 59; refine (CGet.out _ (HG.out.below (bt S0.out S1.out))).mono ?_; rintro e w3 ⟨A3, c3, rfl, hr, hb⟩; have RL := Lib.hid hr; have S2 := Lib.hid hb; clear hr hb)
      as_aux_lemma =>
        go_upto_region 5 with (first | (refine wpl_buildP rfl 24 [(0, .const (.int .u8 3))] rfl (encI (idOf 3)) (by kernel_rfl) ?_) | (refine wpl_buildP rfl 24 [(0, .const (.int .u8 4))] rfl (encI (idOf 4)) (by kernel_rfl) ?_) | (refine wpl_buildE idtE rfl 25 24 1 _ rfl [idOf 4] rfl rfl (.agg zero32.toArray) 32 Tryz.underlying25 Tryz.infoIdz (by decide) (by decide) ?_; generalize hw4 : World.alloc w3 _ = w4; have S3 : Hid (Below w3.heap.size w3 w4) := Lib.hid (by rw [← hw4]; exact (Below.refl _ _).alloc (Nat.le_refl _) _); have RP := Lib.hid (show Src w4 32 (some ⟨w3.heap.size, 0, none⟩) 1 (rowI [idOf 4]) from by rw [← hw4]; exact row_src idtE w3 24 [idOf 4]); clear hw4) | (refine wpl_buildP rfl 28 _ rfl (comL com7 (some ⟨w3.heap.size, 0, none⟩) 1 1) (built_com (idOf 3) (some ⟨w3.heap.size, 0, none⟩) 1 1 4619567317775286272 ⟨#[110]⟩ [idOf 4]) ?_) | (refine wpl_storeS rfl 28 (.tmp 6) _ rfl w4.heap.size (comL com7 (some ⟨w3.heap.size, 0, none⟩) 1 1) rfl rfl 28 zeroC (Blk.new w4 _ _) (infoC _ _ _ _) (by rw [comL_len]; rfl) (comL_one _ _ _ _) ?_))
        generalize hw : World.setRow _ _ _ = w5
        have S4 : Hid (Below w4.heap.size w4 w5) := Lib.hid (by rw [← hw]; exact (laidS w4 28 zeroC _).1)
        have BC : Hid (∀ w, Below w5.heap.size w5 w → Blk w w4.heap.size 28 (comL com7 (some ⟨w3.heap.size, 0, none⟩) 1 1)) := Lib.hid fun w hb => by rw [← hw] at hb; exact (laidS w4 28 zeroC _).2.below hb
        clear hw
        generalize w4.heap.size = g6 at BC ⊢
        have CA : Hid (∀ w, Below w4.heap.size w4 w → ComAt w com7 (some ⟨w3.heap.size, 0, none⟩) 1 1) := Lib.hid fun w hw => ⟨srcI_below RP.out hw, Nat.le_refl _, by decide, by decide, by decide⟩
        generalize w3.heap.size = g4 at BC CA ⊢
        clear RP
        as_aux_lemma =>
          go_upto_region 6 with (first | (refine wpl_loadS rfl 28 (.tmp 6) rfl ⟨g6, 0, none⟩ rfl (comL com7 (some ⟨g4, 0, none⟩) 1 1) Tryz.isAgg28 (infoC _ _ _ _) (fun j u hu => by rw [addr_row _ rfl, Nat.zero_add]; exact (BC.out _ (Below.refl w5.heap.size w5)).cell j u hu) ?_) | (go_at_call 60; refine (CCPut.out _ _ _ (CA.out _ S4.out) (HG.out.below (bt S0.out (bt S1.out (bt S2.out (bt S3.out S4.out)))))).mono ?_; rintro e w6 ⟨rfl, hb⟩; have S5 := Lib.hid hb; clear hb))
          as_aux_lemma =>
            go_upto_region 7 with (first | (go_at_call 61; refine (CCGet.out _ (HG.out.below (bt S0.out (bt S1.out (bt S2.out (bt S3.out (bt S4.out S5.out)))))) (HE.out.below (bt S0.out (bt S1.out (bt S2.out (bt S3.out (bt S4.out S5.out))))))).mono ?_; rintro e w7 ⟨A7, d7, rfl, hr, hb⟩; have R7 := Lib.hid hr; have S6 := Lib.hid hb; clear hr hb) | (refine wpl_storeS rfl 28 (.tmp 9) _ rfl w7.heap.size (comL com7 A7 1 d7) rfl rfl 28 zeroC (Blk.new w7 _ _) (infoC _ _ _ _) (by rw [comL_len]; rfl) (comL_one _ _ _ _) ?_))
            generalize hw : World.setRow _ _ _ = w8
            have S7 : Hid (Below w7.heap.size w7 w8) := Lib.hid (by rw [← hw]; exact (laidS w7 28 zeroC _).1)
            have BD : Hid (∀ w, Below w8.heap.size w8 w → Blk w w7.heap.size 28 (comL com7 A7 1 d7)) := Lib.hid fun w hb => by rw [← hw] at hb; exact (laidS w7 28 zeroC _).2.below hb
            clear hw
            generalize w7.heap.size = g9 at BD  ⊢
            have DA : Hid (∀ w, Below w7.heap.size w7 w → ComAt w com7 A7 1 d7) := Lib.hid fun w hw => by obtain ⟨_, _, e, h1, h2⟩ := R7.out.shape; injection e with _ _ e; subst e; exact ⟨srcI_below (R7.out.src (rowI_one _)) hw, h1, h2, by decide, by decide⟩
            clear R7
            as_aux_lemma =>
              go_upto_region 8 with (first | (refine wpl_buildP rfl 30 [(0, .const (.int .i64 2)), (2, .tmp 52)] rfl (objL ob2 (some ⟨g1, 0, none⟩) 2 2 none 0 0) (built_treeO 2 (some ⟨g1, 0, none⟩) 2 2 ents2) ?_) | (refine wpl_storeS rfl 30 (.tmp 11) _ rfl w8.heap.size (objL ob2 (some ⟨g1, 0, none⟩) 2 2 none 0 0) rfl rfl 30 zeroO (Blk.new w8 _ _) (infoO _ _ _ _ _ _ _) (by rw [objL_len]; rfl) (objL_one _ _ _ _ _ _ _) ?_))
              generalize hw : World.setRow _ _ _ = w9
              have S8 : Hid (Below w8.heap.size w8 w9) := Lib.hid (by rw [← hw]; exact (laidS w8 30 zeroO _).1)
              have BO : Hid (∀ w, Below w9.heap.size w9 w → Blk w w8.heap.size 30 (objL ob2 (some ⟨g1, 0, none⟩) 2 2 none 0 0)) := Lib.hid fun w hb => by rw [← hw] at hb; exact (laidS w8 30 zeroO _).2.below hb
              clear hw
              generalize w8.heap.size = g11 at BO  ⊢
              have OA : Hid (∀ w, Below w1.heap.size w1 w → ObAt w ob2 (some ⟨g1, 0, none⟩) 2 2 none 0 0) := Lib.hid fun w hw => ⟨SE.out w hw, Nat.le_refl _, by decide, ents2_fit, by decide, noComAt w⟩
              as_aux_lemma =>
                go_upto_region 9 with (first | (refine wpl_loadS rfl 30 (.tmp 11) rfl ⟨g11, 0, none⟩ rfl (objL ob2 (some ⟨g1, 0, none⟩) 2 2 none 0 0) Tryz.isAgg30 (infoO _ _ _ _ _ _ _) (fun j u hu => by rw [addr_row _ rfl, Nat.zero_add]; exact (BO.out _ (Below.refl w9.heap.size w9)).cell j u hu) ?_) | (go_at_call 19; refine (COPut.out _ _ _ (OA.out _ (bt S1.out (bt S2.out (bt S3.out (bt S4.out (bt S5.out (bt S6.out (bt S7.out S8.out)))))))) (HG.out.below (bt S0.out (bt S1.out (bt S2.out (bt S3.out (bt S4.out (bt S5.out (bt S6.out (bt S7.out S8.out)))))))))).mono ?_; rintro e w10 ⟨rfl, hb⟩; have S9 := Lib.hid hb; clear hb))
                as_aux_lemma =>
                  go_upto_region 10 with (first | (go_at_call 24; refine (COGet.out _ (HG.out.below (bt S0.out (bt S1.out (bt S2.out (bt S3.out (bt S4.out (bt S5.out (bt S6.out (bt S7.out (bt S8.out S9.out)))))))))) (HE.out.below (bt S0.out (bt S1.out (bt S2.out (bt S3.out (bt S4.out (bt S5.out (bt S6.out (bt S7.out (bt S8.out S9.out))))))))))).mono ?_; rintro e w11 ⟨hb, A11, c11, B11, d11, rfl, h1, h2⟩; have R11 := Lib.hid h1; have Q11 := Lib.hid h2; have S10 := Lib.hid hb; clear hb h1 h2) | (refine wpl_storeS rfl 30 (.tmp 14) _ rfl w11.heap.size (objL ob2 A11 2 c11 B11 0 d11) rfl rfl 30 zeroO (Blk.new w11 _ _) (infoO _ _ _ _ _ _ _) (by rw [objL_len]; rfl) (objL_one _ _ _ _ _ _ _) ?_))
                  generalize hw : World.setRow _ _ _ = w12
                  have S11 : Hid (Below w11.heap.size w11 w12) := Lib.hid (by rw [← hw]; exact (laidS w11 30 zeroO _).1)
                  have BP : Hid (∀ w, Below w12.heap.size w12 w → Blk w w11.heap.size 30 (objL ob2 A11 2 c11 B11 0 d11)) := Lib.hid fun w hb => by rw [← hw] at hb; exact (laidS w11 30 zeroO _).2.below hb
                  clear hw
                  generalize w11.heap.size = g14 at BP  ⊢
                  have PA : Hid (∀ w, Below w11.heap.size w11 w → ObAt w ob2 A11 2 c11 B11 0 d11) := Lib.hid fun w hw => by obtain ⟨_, _, e, h1, h2⟩ := R11.out.shape; injection e with _ _ e; subst e; obtain ⟨_, _, e, h3, h4⟩ := Q11.out.shape; injection e with _ _ e; subst e; exact ⟨entE.src_below (R11.out.src (entE.row_one _)) hw, h1, h2, ents2_fit, by decide, ⟨srcI_below (Q11.out.src (rowI_one _)) hw, h3, h4, by decide, by decide⟩⟩
                  clear R11 Q11
                  as_aux_lemma =>
                    go_upto_region 11 with (first | (refine wpl_loadS rfl 30 (.tmp 11) rfl ⟨g11, 0, none⟩ rfl (objL ob2 (some ⟨g1, 0, none⟩) 2 2 none 0 0) Tryz.isAgg30 (infoO _ _ _ _ _ _ _) (fun j u hu => by rw [addr_row _ rfl, Nat.zero_add]; exact (BO.out _ (bt S9.out (bt S10.out S11.out))).cell j u hu) ?_) | (go_at_call 20; refine (COId.out _ _ _ (OA.out _ (bt S1.out (bt S2.out (bt S3.out (bt S4.out (bt S5.out (bt S6.out (bt S7.out (bt S8.out (bt S9.out (bt S10.out S11.out))))))))))) (HG.out.below (bt S0.out (bt S1.out (bt S2.out (bt S3.out (bt S4.out (bt S5.out (bt S6.out (bt S7.out (bt S8.out (bt S9.out (bt S10.out S11.out))))))))))))).mono ?_; rintro e w13 ⟨rfl, hb⟩; have S12 := Lib.hid hb; clear hb) | (refine wpl_storeS rfl 24 (.tmp 16) _ rfl w13.heap.size (encI sid) rfl rfl 24 zero32 (Blk.new w13 _ _) IS.out (by rw [LS.out]; rfl) (PS.out) ?_))
                    generalize hw : World.setRow _ _ _ = w14
                    have S13 : Hid (Below w13.heap.size w13 w14) := Lib.hid (by rw [← hw]; exact (laidS w13 24 zero32 _).1)
                    have BI : Hid (∀ w, Below w14.heap.size w14 w → Blk w w13.heap.size 24 (encI sid)) := Lib.hid fun w hb => by rw [← hw] at hb; exact (laidS w13 24 zero32 _).2.below hb
                    clear hw
                    generalize w13.heap.size = g16 at BI  ⊢
                    as_aux_lemma =>
                      go_upto_region 12 with (first | (refine wpl_loadS rfl 30 (.tmp 11) rfl ⟨g11, 0, none⟩ rfl (objL ob2 (some ⟨g1, 0, none⟩) 2 2 none 0 0) Tryz.isAgg30 (infoO _ _ _ _ _ _ _) (fun j u hu => by rw [addr_row _ rfl, Nat.zero_add]; exact (BO.out _ (bt S9.out (bt S10.out (bt S11.out (bt S12.out S13.out))))).cell j u hu) ?_) | (go_at_call 28; refine (CLk.out _ _ _ (OA.out _ (bt S1.out (bt S2.out (bt S3.out (bt S4.out (bt S5.out (bt S6.out (bt S7.out (bt S8.out (bt S9.out (bt S10.out (bt S11.out (bt S12.out S13.out)))))))))))))).mono ?_; rintro e w15 ⟨A15, c15, rfl, hr, hb⟩; have R15 := Lib.hid hr; have S14 := Lib.hid hb; clear hr hb))
                      as_aux_lemma =>
                        go_upto_region 13 with (first | (go_at_call 62; refine (CFd.out _ _ _ (SE.out _ (bt S1.out (bt S2.out (bt S3.out (bt S4.out (bt S5.out (bt S6.out (bt S7.out (bt S8.out (bt S9.out (bt S10.out (bt S11.out (bt S12.out (bt S13.out S14.out))))))))))))))).mono ?_; rintro e w16 ⟨rfl, hb⟩; have S15 := Lib.hid hb; clear hb) | (refine wpl_storeS rfl 99 (.tmp 19) _ rfl w16.heap.size (encE ent2) rfl rfl 99 zeroE (Blk.new w16 _ _) (infoE _) (rfl) (entE.one _) ?_))
                        generalize hw : World.setRow _ _ _ = w17
                        have S16 : Hid (Below w16.heap.size w16 w17) := Lib.hid (by rw [← hw]; exact (laidS w16 99 zeroE _).1)
                        have BF : Hid (∀ w, Below w17.heap.size w17 w → Blk w w16.heap.size 99 (encE ent2)) := Lib.hid fun w hb => by rw [← hw] at hb; exact (laidS w16 99 zeroE _).2.below hb
                        clear hw
                        generalize w16.heap.size = g19 at BF  ⊢
                        obtain ⟨_, b3, o3, rfl, hc3⟩ := entE.src_at (RL.out.src (entE.row_one _)) (by decide)
                        have CL : Hid (∀ w, Below w3.heap.size w3 w → ∀ j v, (encE ent2)[j]? = some v → w.cell? ((⟨b3, o3 + 34, none⟩ : Addr).add j) = some v) := Lib.hid fun w hw j v hv => by obtain ⟨_, b4, o4, e, hc⟩ := entE.src_at (entE.src_below (RL.out.src (entE.row_one _)) hw) (by decide); injection e with e; injection e with e4 e5 _; subst e4; subst e5; exact entE.at_elem (hc 1 (by decide)) j v hv
                        have CE1 : Hid (∀ w, Below w1.heap.size w1 w → ∀ j v, (encE ent2)[j]? = some v → w.cell? ((⟨g1, 34, none⟩ : Addr).add j) = some v) := Lib.hid fun w hw j v hv => by obtain ⟨_, b4, o4, e, hc⟩ := entE.src_at (SE.out w hw) (by decide); injection e with e; injection e with e4 e5 _; subst e4; subst e5; have := entE.at_elem (hc 1 (by decide)) j v hv; have h34 : entE.k = 34 := rfl; simp only [Nat.zero_add, Nat.one_mul, h34] at this; exact this
                        have CI1 : Hid (∀ w, Below w1.heap.size w1 w → ∀ j v, (encI (idOf 2))[j]? = some v → w.cell? ((⟨g1, 36, none⟩ : Addr).add j) = some v) := Lib.hid fun w hw j v hv => by have := CE1.out w hw (j + 2) v (by show (encE ent2)[j + 2]? = some v; exact hv); rw [addr_row _ rfl] at this ⊢; rw [show 36 + j = 34 + (j + 2) by omega]; exact this
                        obtain ⟨_, b15, o15, rfl, _⟩ := src_names (R15.out.src (rowI_one _)) (by decide)
                        have CK : Hid (∀ w, Below w15.heap.size w15 w → ∀ j v, (encI (idOf 2))[j]? = some v → w.cell? ((⟨b15, o15 + 32, none⟩ : Addr).add j) = some v) := Lib.hid fun w hw j v hv => by obtain ⟨_, b4, o4, e, hc⟩ := src_names (srcI_below (R15.out.src (rowI_one _)) hw) (by decide); injection e with e; injection e with e4 e5 _; subst e4; subst e5; have h3 := hc 1 (by decide); rw [show (linksO ob2)[1]! = idOf 2 from rfl] at h3; have := idtE.at_elem (j := 1) (x := idOf 2) h3 j v hv; exact this
                        clear RL R15 hc3
                        have eqE : ∀ w, (binOp .eql 99 (.agg (encE ent2).toArray) (.agg (encE ent2).toArray)).run Tryz.prog w = .ok (.bool true) w := fun w => by have := eqlAtE.1 ent2 ent2 w; simpa using this
                        have guE : ∀ op p q w, (eqGuard op 99 p q (.agg (encE ent2).toArray) (.agg (encE ent2).toArray)).run Tryz.prog w = .ok () w := fun op p q w => eqlAtE.2 op p q ent2 ent2 w
                        have eqI : ∀ w, (binOp .eql 24 (.agg (encI (idOf 2)).toArray) (.agg (encI (idOf 2)).toArray)).run Tryz.prog w = .ok (.bool true) w := fun w => by have := eqlAtI.1 (idOf 2) (idOf 2) w; simpa using this
                        have guI : ∀ op p q w, (eqGuard op 24 p q (.agg (encI (idOf 2)).toArray) (.agg (encI (idOf 2)).toArray)).run Tryz.prog w = .ok () w := fun op p q w => eqlAtI.2 op p q (idOf 2) (idOf 2) w
                        have eqS : ∀ w, (binOp .eql 24 (.agg (encI sid).toArray) (.agg (encI sid).toArray)).run Tryz.prog w = .ok (.bool true) w := fun w => by have := eqlAtI.1 sid sid w; simpa using this
                        have guS : ∀ op p q w, (eqGuard op 24 p q (.agg (encI sid).toArray) (.agg (encI sid).toArray)).run Tryz.prog w = .ok () w := fun op p q w => eqlAtI.2 op p q sid sid w
                        have IE := Lib.hid (infoE ent2)
                        have II := Lib.hid (infoId (idOf 2))
                        skip
                        as_aux_lemma =>
                          go_upto_region 14 with (go_at_call 63; refine (CPa.out _ (HG.out.below (bt S0.out (bt S1.out (bt S2.out (bt S3.out (bt S4.out (bt S5.out (bt S6.out (bt S7.out (bt S8.out (bt S9.out (bt S10.out (bt S11.out (bt S12.out (bt S13.out (bt S14.out (bt S15.out S16.out)))))))))))))))))).mono ?_; rintro e w18 ⟨A18, c18, rfl, _, hb⟩; have S17 := Lib.hid hb; clear hb)
                          have hemp := ext_nonempty w18
                          have QB : Hid (∀ s : Ext w18, Calls Tryz.prog 64 #[] s.at_ fun e w' => e = .returned (.bool true) ∧ Below s.at_.heap.size s.at_ w') := Lib.hid fun s => begun1_any _ (HG.out.below (bt (bt S0.out (bt S1.out (bt S2.out (bt S3.out (bt S4.out (bt S5.out (bt S6.out (bt S7.out (bt S8.out (bt S9.out (bt S10.out (bt S11.out (bt S12.out (bt S13.out (bt S14.out (bt S15.out (bt S16.out S17.out))))))))))))))))) s.below))
                          have QC : Hid (∀ s : Ext w18, Calls Tryz.prog 65 #[.agg (comL com7 (some ⟨g4, 0, none⟩) 1 1).toArray, .agg (comL com7 A7 1 d7).toArray] s.at_ fun e w' => e = .returned (.bool true) ∧ Below s.at_.heap.size s.at_ w') := Lib.hid fun s => by have := commitEq_any s.at_ com7 com7 _ _ _ _ _ _ (CA.out _ (bt (bt S4.out (bt S5.out (bt S6.out (bt S7.out (bt S8.out (bt S9.out (bt S10.out (bt S11.out (bt S12.out (bt S13.out (bt S14.out (bt S15.out (bt S16.out S17.out))))))))))))) s.below)) (DA.out _ (bt (bt S7.out (bt S8.out (bt S9.out (bt S10.out (bt S11.out (bt S12.out (bt S13.out (bt S14.out (bt S15.out (bt S16.out S17.out)))))))))) s.below)) (by decide) (by decide); rwa [eqC_self] at this
                          have QO : Hid (∀ s : Ext w18, Calls Tryz.prog 22 #[.agg (objL ob2 (some ⟨g1, 0, none⟩) 2 2 none 0 0).toArray, .agg (objL ob2 A11 2 c11 B11 0 d11).toArray] s.at_ fun e w' => e = .returned (.bool true) ∧ Below s.at_.heap.size s.at_ w') := Lib.hid fun s => by have := objEq_any s.at_ ob2 ob2 _ _ _ _ _ _ _ _ _ _ _ _ (OA.out _ (bt (bt S1.out (bt S2.out (bt S3.out (bt S4.out (bt S5.out (bt S6.out (bt S7.out (bt S8.out (bt S9.out (bt S10.out (bt S11.out (bt S12.out (bt S13.out (bt S14.out (bt S15.out (bt S16.out S17.out)))))))))))))))) s.below)) (PA.out _ (bt (bt S11.out (bt S12.out (bt S13.out (bt S14.out (bt S15.out (bt S16.out S17.out)))))) s.below)) (by decide) (by decide) (by decide) (by decide); rwa [eqO_self] at this
                          have LD1 : Hid (∀ w', (∃ s : Ext w18, w' = s.at_) → ∀ j u, (encE ent2)[j]? = some u → w'.cell? ((⟨b3, o3 + 34, none⟩ : Addr).add j) = some u) := Lib.hid (fun w' ⟨s, hw⟩ j u hu => by rw [hw]; exact CL.out _ (bt (bt S3.out (bt S4.out (bt S5.out (bt S6.out (bt S7.out (bt S8.out (bt S9.out (bt S10.out (bt S11.out (bt S12.out (bt S13.out (bt S14.out (bt S15.out (bt S16.out S17.out)))))))))))))) s.below) j u hu)
                          have LD2 : Hid (∀ w', (∃ s : Ext w18, w' = s.at_) → ∀ j u, (encE ent2)[j]? = some u → w'.cell? ((⟨g1, 34, none⟩ : Addr).add j) = some u) := Lib.hid (fun w' ⟨s, hw⟩ j u hu => by rw [hw]; exact CE1.out _ (bt (bt S1.out (bt S2.out (bt S3.out (bt S4.out (bt S5.out (bt S6.out (bt S7.out (bt S8.out (bt S9.out (bt S10.out (bt S11.out (bt S12.out (bt S13.out (bt S14.out (bt S15.out (bt S16.out S17.out)))))))))))))))) s.below) j u hu)
                          have LD3 : Hid (∀ w', (∃ s : Ext w18, w' = s.at_) → ∀ j u, (comL com7 (some ⟨g4, 0, none⟩) 1 1)[j]? = some u → w'.cell? ((⟨g6, 0, none⟩ : Addr).add j) = some u) := Lib.hid (fun w' ⟨s, hw⟩ j u hu => by rw [hw, addr_row _ rfl, Nat.zero_add]; exact (BC.out _ (bt (bt S5.out (bt S6.out (bt S7.out (bt S8.out (bt S9.out (bt S10.out (bt S11.out (bt S12.out (bt S13.out (bt S14.out (bt S15.out (bt S16.out S17.out)))))))))))) s.below)).cell j u hu)
                          have LD4 : Hid (∀ w', (∃ s : Ext w18, w' = s.at_) → ∀ j u, (comL com7 A7 1 d7)[j]? = some u → w'.cell? ((⟨g9, 0, none⟩ : Addr).add j) = some u) := Lib.hid (fun w' ⟨s, hw⟩ j u hu => by rw [hw, addr_row _ rfl, Nat.zero_add]; exact (BD.out _ (bt (bt S8.out (bt S9.out (bt S10.out (bt S11.out (bt S12.out (bt S13.out (bt S14.out (bt S15.out (bt S16.out S17.out))))))))) s.below)).cell j u hu)
                          have LD5 : Hid (∀ w', (∃ s : Ext w18, w' = s.at_) → ∀ j u, (objL ob2 (some ⟨g1, 0, none⟩) 2 2 none 0 0)[j]? = some u → w'.cell? ((⟨g11, 0, none⟩ : Addr).add j) = some u) := Lib.hid (fun w' ⟨s, hw⟩ j u hu => by rw [hw, addr_row _ rfl, Nat.zero_add]; exact (BO.out _ (bt (bt S9.out (bt S10.out (bt S11.out (bt S12.out (bt S13.out (bt S14.out (bt S15.out (bt S16.out S17.out)))))))) s.below)).cell j u hu)
                          have LD6 : Hid (∀ w', (∃ s : Ext w18, w' = s.at_) → ∀ j u, (objL ob2 A11 2 c11 B11 0 d11)[j]? = some u → w'.cell? ((⟨g14, 0, none⟩ : Addr).add j) = some u) := Lib.hid (fun w' ⟨s, hw⟩ j u hu => by rw [hw, addr_row _ rfl, Nat.zero_add]; exact (BP.out _ (bt (bt S12.out (bt S13.out (bt S14.out (bt S15.out (bt S16.out S17.out))))) s.below)).cell j u hu)
                          have LD7 : Hid (∀ w', (∃ s : Ext w18, w' = s.at_) → ∀ j u, (encI sid)[j]? = some u → w'.cell? ((⟨g16, 0, none⟩ : Addr).add j) = some u) := Lib.hid (fun w' ⟨s, hw⟩ j u hu => by rw [hw, addr_row _ rfl, Nat.zero_add]; exact (BI.out _ (bt (bt S14.out (bt S15.out (bt S16.out S17.out))) s.below)).cell j u hu)
                          have LD8 : Hid (∀ w', (∃ s : Ext w18, w' = s.at_) → ∀ j u, (encI (idOf 2))[j]? = some u → w'.cell? ((⟨b15, o15 + 32, none⟩ : Addr).add j) = some u) := Lib.hid (fun w' ⟨s, hw⟩ j u hu => by rw [hw]; exact CK.out _ (bt (bt S15.out (bt S16.out S17.out)) s.below) j u hu)
                          have LD9 : Hid (∀ w', (∃ s : Ext w18, w' = s.at_) → ∀ j u, (encI (idOf 2))[j]? = some u → w'.cell? ((⟨g1, 36, none⟩ : Addr).add j) = some u) := Lib.hid (fun w' ⟨s, hw⟩ j u hu => by rw [hw]; exact CI1.out _ (bt (bt S1.out (bt S2.out (bt S3.out (bt S4.out (bt S5.out (bt S6.out (bt S7.out (bt S8.out (bt S9.out (bt S10.out (bt S11.out (bt S12.out (bt S13.out (bt S14.out (bt S15.out (bt S16.out S17.out)))))))))))))))) s.below) j u hu)
                          have LD10 : Hid (∀ w', (∃ s : Ext w18, w' = s.at_) → ∀ j u, (encE ent2)[j]? = some u → w'.cell? ((⟨g19, 0, none⟩ : Addr).add j) = some u) := Lib.hid (fun w' ⟨s, hw⟩ j u hu => by rw [hw, addr_row _ rfl, Nat.zero_add]; exact (BF.out _ (bt S17.out s.below)).cell j u hu)
                          have LD11 : Hid (∀ w', (∃ s : Ext w18, w' = s.at_) → ∀ j u, (encE ent2)[j]? = some u → w'.cell? ((⟨g1, 34, none⟩ : Addr).add j) = some u) := Lib.hid (fun w' ⟨s, hw⟩ j u hu => by rw [hw]; exact CE1.out _ (bt (bt S1.out (bt S2.out (bt S3.out (bt S4.out (bt S5.out (bt S6.out (bt S7.out (bt S8.out (bt S9.out (bt S10.out (bt S11.out (bt S12.out (bt S13.out (bt S14.out (bt S15.out (bt S16.out S17.out)))))))))))))))) s.below) j u hu)
                          have LZ := Lib.hid (bt S0.out (bt S1.out (bt S2.out (bt S3.out (bt S4.out (bt S5.out (bt S6.out (bt S7.out (bt S8.out (bt S9.out (bt S10.out (bt S11.out (bt S12.out (bt S13.out (bt S14.out (bt S15.out (bt S16.out S17.out)))))))))))))))))
                          clear S0 S1 S2 S3 S4 S5 S6 S7 S8 S9 S10 S11 S12 S13 S14 S15 S16 S17 SE CA DA OA PA BC BD BO BP BI BF CL CE1 CI1 CK CPut CGet CCPut CCGet COPut COGet COId CLk CFd CPa HG HE
                          as_aux_lemma =>
                            refine wp_region_ext (by kernel_rfl) (lexB_of_chk (by kernel_rfl) (by kernel_rfl)) ?_
                            simp only [List.append_eq, List.cons_append, List.nil_append]
                            as_aux_lemma =>
                              iterate 12 (first
                                | (refine wpQuiet_loadS (by rfl) 99 (.tmp 100) rfl ⟨b3, o3 + 34, none⟩ rfl (encE ent2) Tryz.isAgg99 IE.out LD1.out ?_)
                                | (refine wpQuiet_loadS (by rfl) 99 (.tmp 103) rfl ⟨g1, 34, none⟩ rfl (encE ent2) Tryz.isAgg99 IE.out LD2.out ?_)
                                | (refine wpQuiet_loadS (by rfl) 28 (.tmp 6) rfl ⟨g6, 0, none⟩ rfl (comL com7 (some ⟨g4, 0, none⟩) 1 1) Tryz.isAgg28 (infoC _ _ _ _) LD3.out ?_)
                                | (refine wpQuiet_loadS (by rfl) 28 (.tmp 9) rfl ⟨g9, 0, none⟩ rfl (comL com7 A7 1 d7) Tryz.isAgg28 (infoC _ _ _ _) LD4.out ?_)
                                | (refine wpQuiet_loadS (by rfl) 30 (.tmp 11) rfl ⟨g11, 0, none⟩ rfl (objL ob2 (some ⟨g1, 0, none⟩) 2 2 none 0 0) Tryz.isAgg30 (infoO _ _ _ _ _ _ _) LD5.out ?_)
                                | (refine wpQuiet_loadS (by rfl) 30 (.tmp 14) rfl ⟨g14, 0, none⟩ rfl (objL ob2 A11 2 c11 B11 0 d11) Tryz.isAgg30 (infoO _ _ _ _ _ _ _) LD6.out ?_)
                                | (refine wpQuiet_loadS (by rfl) 24 (.tmp 16) rfl ⟨g16, 0, none⟩ rfl (encI sid) Tryz.isAgg24 IS.out LD7.out ?_)
                                | (refine wpQuiet_loadS (by rfl) 24 (.tmp 152) rfl ⟨b15, o15 + 32, none⟩ rfl (encI (idOf 2)) Tryz.isAgg24 II.out LD8.out ?_)
                                | (refine wpQuiet_loadS (by rfl) 24 (.tmp 156) rfl ⟨g1, 36, none⟩ rfl (encI (idOf 2)) Tryz.isAgg24 II.out LD9.out ?_)
                                | (refine wpQuiet_loadS (by rfl) 99 (.tmp 19) rfl ⟨g19, 0, none⟩ rfl (encE ent2) Tryz.isAgg99 IE.out LD10.out ?_)
                                | (refine wpQuiet_loadS (by rfl) 99 (.tmp 166) rfl ⟨g1, 34, none⟩ rfl (encE ent2) Tryz.isAgg99 IE.out LD11.out ?_)
                                | quiet_step ((first | (go_at_call 64; exact Ext.call (QB.out _)) | (go_at_call 65; exact Ext.call (QC.out _)) | (go_at_call 22; exact Ext.call (QO.out _)) | (go_at_call 53; exact Ext.call (CRi.out _))))
                                | go_big_quiet_step ((first | (go_at_call 64; exact Ext.call (QB.out _)) | (go_at_call 65; exact Ext.call (QC.out _)) | (go_at_call 22; exact Ext.call (QO.out _)) | (go_at_call 53; exact Ext.call (CRi.out _))))
                                | skip)
                              as_aux_lemma =>
                                iterate 12 (first
                                  | (refine wpQuiet_loadS (by rfl) 99 (.tmp 100) rfl ⟨b3, o3 + 34, none⟩ rfl (encE ent2) Tryz.isAgg99 IE.out LD1.out ?_)
                                  | (refine wpQuiet_loadS (by rfl) 99 (.tmp 103) rfl ⟨g1, 34, none⟩ rfl (encE ent2) Tryz.isAgg99 IE.out LD2.out ?_)
                                  | (refine wpQuiet_loadS (by rfl) 28 (.tmp 6) rfl ⟨g6, 0, none⟩ rfl (comL com7 (some ⟨g4, 0, none⟩) 1 1) Tryz.isAgg28 (infoC _ _ _ _) LD3.out ?_)
                                  | (refine wpQuiet_loadS (by rfl) 28 (.tmp 9) rfl ⟨g9, 0, none⟩ rfl (comL com7 A7 1 d7) Tryz.isAgg28 (infoC _ _ _ _) LD4.out ?_)
                                  | (refine wpQuiet_loadS (by rfl) 30 (.tmp 11) rfl ⟨g11, 0, none⟩ rfl (objL ob2 (some ⟨g1, 0, none⟩) 2 2 none 0 0) Tryz.isAgg30 (infoO _ _ _ _ _ _ _) LD5.out ?_)
                                  | (refine wpQuiet_loadS (by rfl) 30 (.tmp 14) rfl ⟨g14, 0, none⟩ rfl (objL ob2 A11 2 c11 B11 0 d11) Tryz.isAgg30 (infoO _ _ _ _ _ _ _) LD6.out ?_)
                                  | (refine wpQuiet_loadS (by rfl) 24 (.tmp 16) rfl ⟨g16, 0, none⟩ rfl (encI sid) Tryz.isAgg24 IS.out LD7.out ?_)
                                  | (refine wpQuiet_loadS (by rfl) 24 (.tmp 152) rfl ⟨b15, o15 + 32, none⟩ rfl (encI (idOf 2)) Tryz.isAgg24 II.out LD8.out ?_)
                                  | (refine wpQuiet_loadS (by rfl) 24 (.tmp 156) rfl ⟨g1, 36, none⟩ rfl (encI (idOf 2)) Tryz.isAgg24 II.out LD9.out ?_)
                                  | (refine wpQuiet_loadS (by rfl) 99 (.tmp 19) rfl ⟨g19, 0, none⟩ rfl (encE ent2) Tryz.isAgg99 IE.out LD10.out ?_)
                                  | (refine wpQuiet_loadS (by rfl) 99 (.tmp 166) rfl ⟨g1, 34, none⟩ rfl (encE ent2) Tryz.isAgg99 IE.out LD11.out ?_)
                                  | quiet_step ((first | (go_at_call 64; exact Ext.call (QB.out _)) | (go_at_call 65; exact Ext.call (QC.out _)) | (go_at_call 22; exact Ext.call (QO.out _)) | (go_at_call 53; exact Ext.call (CRi.out _))))
                                  | go_big_quiet_step ((first | (go_at_call 64; exact Ext.call (QB.out _)) | (go_at_call 65; exact Ext.call (QC.out _)) | (go_at_call 22; exact Ext.call (QO.out _)) | (go_at_call 53; exact Ext.call (CRi.out _))))
                                  | skip)
                                as_aux_lemma =>
                                  iterate 12 (first
                                    | (refine wpQuiet_loadS (by rfl) 99 (.tmp 100) rfl ⟨b3, o3 + 34, none⟩ rfl (encE ent2) Tryz.isAgg99 IE.out LD1.out ?_)
                                    | (refine wpQuiet_loadS (by rfl) 99 (.tmp 103) rfl ⟨g1, 34, none⟩ rfl (encE ent2) Tryz.isAgg99 IE.out LD2.out ?_)
                                    | (refine wpQuiet_loadS (by rfl) 28 (.tmp 6) rfl ⟨g6, 0, none⟩ rfl (comL com7 (some ⟨g4, 0, none⟩) 1 1) Tryz.isAgg28 (infoC _ _ _ _) LD3.out ?_)
                                    | (refine wpQuiet_loadS (by rfl) 28 (.tmp 9) rfl ⟨g9, 0, none⟩ rfl (comL com7 A7 1 d7) Tryz.isAgg28 (infoC _ _ _ _) LD4.out ?_)
                                    | (refine wpQuiet_loadS (by rfl) 30 (.tmp 11) rfl ⟨g11, 0, none⟩ rfl (objL ob2 (some ⟨g1, 0, none⟩) 2 2 none 0 0) Tryz.isAgg30 (infoO _ _ _ _ _ _ _) LD5.out ?_)
                                    | (refine wpQuiet_loadS (by rfl) 30 (.tmp 14) rfl ⟨g14, 0, none⟩ rfl (objL ob2 A11 2 c11 B11 0 d11) Tryz.isAgg30 (infoO _ _ _ _ _ _ _) LD6.out ?_)
                                    | (refine wpQuiet_loadS (by rfl) 24 (.tmp 16) rfl ⟨g16, 0, none⟩ rfl (encI sid) Tryz.isAgg24 IS.out LD7.out ?_)
                                    | (refine wpQuiet_loadS (by rfl) 24 (.tmp 152) rfl ⟨b15, o15 + 32, none⟩ rfl (encI (idOf 2)) Tryz.isAgg24 II.out LD8.out ?_)
                                    | (refine wpQuiet_loadS (by rfl) 24 (.tmp 156) rfl ⟨g1, 36, none⟩ rfl (encI (idOf 2)) Tryz.isAgg24 II.out LD9.out ?_)
                                    | (refine wpQuiet_loadS (by rfl) 99 (.tmp 19) rfl ⟨g19, 0, none⟩ rfl (encE ent2) Tryz.isAgg99 IE.out LD10.out ?_)
                                    | (refine wpQuiet_loadS (by rfl) 99 (.tmp 166) rfl ⟨g1, 34, none⟩ rfl (encE ent2) Tryz.isAgg99 IE.out LD11.out ?_)
                                    | quiet_step ((first | (go_at_call 64; exact Ext.call (QB.out _)) | (go_at_call 65; exact Ext.call (QC.out _)) | (go_at_call 22; exact Ext.call (QO.out _)) | (go_at_call 53; exact Ext.call (CRi.out _))))
                                    | go_big_quiet_step ((first | (go_at_call 64; exact Ext.call (QB.out _)) | (go_at_call 65; exact Ext.call (QC.out _)) | (go_at_call 22; exact Ext.call (QO.out _)) | (go_at_call 53; exact Ext.call (CRi.out _))))
                                    | skip)
                                  as_aux_lemma =>
                                    iterate 12 (first
                                      | (refine wpQuiet_loadS (by rfl) 99 (.tmp 100) rfl ⟨b3, o3 + 34, none⟩ rfl (encE ent2) Tryz.isAgg99 IE.out LD1.out ?_)
                                      | (refine wpQuiet_loadS (by rfl) 99 (.tmp 103) rfl ⟨g1, 34, none⟩ rfl (encE ent2) Tryz.isAgg99 IE.out LD2.out ?_)
                                      | (refine wpQuiet_loadS (by rfl) 28 (.tmp 6) rfl ⟨g6, 0, none⟩ rfl (comL com7 (some ⟨g4, 0, none⟩) 1 1) Tryz.isAgg28 (infoC _ _ _ _) LD3.out ?_)
                                      | (refine wpQuiet_loadS (by rfl) 28 (.tmp 9) rfl ⟨g9, 0, none⟩ rfl (comL com7 A7 1 d7) Tryz.isAgg28 (infoC _ _ _ _) LD4.out ?_)
                                      | (refine wpQuiet_loadS (by rfl) 30 (.tmp 11) rfl ⟨g11, 0, none⟩ rfl (objL ob2 (some ⟨g1, 0, none⟩) 2 2 none 0 0) Tryz.isAgg30 (infoO _ _ _ _ _ _ _) LD5.out ?_)
                                      | (refine wpQuiet_loadS (by rfl) 30 (.tmp 14) rfl ⟨g14, 0, none⟩ rfl (objL ob2 A11 2 c11 B11 0 d11) Tryz.isAgg30 (infoO _ _ _ _ _ _ _) LD6.out ?_)
                                      | (refine wpQuiet_loadS (by rfl) 24 (.tmp 16) rfl ⟨g16, 0, none⟩ rfl (encI sid) Tryz.isAgg24 IS.out LD7.out ?_)
                                      | (refine wpQuiet_loadS (by rfl) 24 (.tmp 152) rfl ⟨b15, o15 + 32, none⟩ rfl (encI (idOf 2)) Tryz.isAgg24 II.out LD8.out ?_)
                                      | (refine wpQuiet_loadS (by rfl) 24 (.tmp 156) rfl ⟨g1, 36, none⟩ rfl (encI (idOf 2)) Tryz.isAgg24 II.out LD9.out ?_)
                                      | (refine wpQuiet_loadS (by rfl) 99 (.tmp 19) rfl ⟨g19, 0, none⟩ rfl (encE ent2) Tryz.isAgg99 IE.out LD10.out ?_)
                                      | (refine wpQuiet_loadS (by rfl) 99 (.tmp 166) rfl ⟨g1, 34, none⟩ rfl (encE ent2) Tryz.isAgg99 IE.out LD11.out ?_)
                                      | quiet_step ((first | (go_at_call 64; exact Ext.call (QB.out _)) | (go_at_call 65; exact Ext.call (QC.out _)) | (go_at_call 22; exact Ext.call (QO.out _)) | (go_at_call 53; exact Ext.call (CRi.out _))))
                                      | go_big_quiet_step ((first | (go_at_call 64; exact Ext.call (QB.out _)) | (go_at_call 65; exact Ext.call (QC.out _)) | (go_at_call 22; exact Ext.call (QO.out _)) | (go_at_call 53; exact Ext.call (CRi.out _))))
                                      | skip)
                                    as_aux_lemma =>
                                      iterate 12 (first
                                        | (refine wpQuiet_loadS (by rfl) 99 (.tmp 100) rfl ⟨b3, o3 + 34, none⟩ rfl (encE ent2) Tryz.isAgg99 IE.out LD1.out ?_)
                                        | (refine wpQuiet_loadS (by rfl) 99 (.tmp 103) rfl ⟨g1, 34, none⟩ rfl (encE ent2) Tryz.isAgg99 IE.out LD2.out ?_)
                                        | (refine wpQuiet_loadS (by rfl) 28 (.tmp 6) rfl ⟨g6, 0, none⟩ rfl (comL com7 (some ⟨g4, 0, none⟩) 1 1) Tryz.isAgg28 (infoC _ _ _ _) LD3.out ?_)
                                        | (refine wpQuiet_loadS (by rfl) 28 (.tmp 9) rfl ⟨g9, 0, none⟩ rfl (comL com7 A7 1 d7) Tryz.isAgg28 (infoC _ _ _ _) LD4.out ?_)
                                        | (refine wpQuiet_loadS (by rfl) 30 (.tmp 11) rfl ⟨g11, 0, none⟩ rfl (objL ob2 (some ⟨g1, 0, none⟩) 2 2 none 0 0) Tryz.isAgg30 (infoO _ _ _ _ _ _ _) LD5.out ?_)
                                        | (refine wpQuiet_loadS (by rfl) 30 (.tmp 14) rfl ⟨g14, 0, none⟩ rfl (objL ob2 A11 2 c11 B11 0 d11) Tryz.isAgg30 (infoO _ _ _ _ _ _ _) LD6.out ?_)
                                        | (refine wpQuiet_loadS (by rfl) 24 (.tmp 16) rfl ⟨g16, 0, none⟩ rfl (encI sid) Tryz.isAgg24 IS.out LD7.out ?_)
                                        | (refine wpQuiet_loadS (by rfl) 24 (.tmp 152) rfl ⟨b15, o15 + 32, none⟩ rfl (encI (idOf 2)) Tryz.isAgg24 II.out LD8.out ?_)
                                        | (refine wpQuiet_loadS (by rfl) 24 (.tmp 156) rfl ⟨g1, 36, none⟩ rfl (encI (idOf 2)) Tryz.isAgg24 II.out LD9.out ?_)
                                        | (refine wpQuiet_loadS (by rfl) 99 (.tmp 19) rfl ⟨g19, 0, none⟩ rfl (encE ent2) Tryz.isAgg99 IE.out LD10.out ?_)
                                        | (refine wpQuiet_loadS (by rfl) 99 (.tmp 166) rfl ⟨g1, 34, none⟩ rfl (encE ent2) Tryz.isAgg99 IE.out LD11.out ?_)
                                        | quiet_step ((first | (go_at_call 64; exact Ext.call (QB.out _)) | (go_at_call 65; exact Ext.call (QC.out _)) | (go_at_call 22; exact Ext.call (QO.out _)) | (go_at_call 53; exact Ext.call (CRi.out _))))
                                        | go_big_quiet_step ((first | (go_at_call 64; exact Ext.call (QB.out _)) | (go_at_call 65; exact Ext.call (QC.out _)) | (go_at_call 22; exact Ext.call (QO.out _)) | (go_at_call 53; exact Ext.call (CRi.out _))))
                                        | skip)
                                      as_aux_lemma =>
                                        iterate 12 (first
                                          | (refine wpQuiet_loadS (by rfl) 99 (.tmp 100) rfl ⟨b3, o3 + 34, none⟩ rfl (encE ent2) Tryz.isAgg99 IE.out LD1.out ?_)
                                          | (refine wpQuiet_loadS (by rfl) 99 (.tmp 103) rfl ⟨g1, 34, none⟩ rfl (encE ent2) Tryz.isAgg99 IE.out LD2.out ?_)
                                          | (refine wpQuiet_loadS (by rfl) 28 (.tmp 6) rfl ⟨g6, 0, none⟩ rfl (comL com7 (some ⟨g4, 0, none⟩) 1 1) Tryz.isAgg28 (infoC _ _ _ _) LD3.out ?_)
                                          | (refine wpQuiet_loadS (by rfl) 28 (.tmp 9) rfl ⟨g9, 0, none⟩ rfl (comL com7 A7 1 d7) Tryz.isAgg28 (infoC _ _ _ _) LD4.out ?_)
                                          | (refine wpQuiet_loadS (by rfl) 30 (.tmp 11) rfl ⟨g11, 0, none⟩ rfl (objL ob2 (some ⟨g1, 0, none⟩) 2 2 none 0 0) Tryz.isAgg30 (infoO _ _ _ _ _ _ _) LD5.out ?_)
                                          | (refine wpQuiet_loadS (by rfl) 30 (.tmp 14) rfl ⟨g14, 0, none⟩ rfl (objL ob2 A11 2 c11 B11 0 d11) Tryz.isAgg30 (infoO _ _ _ _ _ _ _) LD6.out ?_)
                                          | (refine wpQuiet_loadS (by rfl) 24 (.tmp 16) rfl ⟨g16, 0, none⟩ rfl (encI sid) Tryz.isAgg24 IS.out LD7.out ?_)
                                          | (refine wpQuiet_loadS (by rfl) 24 (.tmp 152) rfl ⟨b15, o15 + 32, none⟩ rfl (encI (idOf 2)) Tryz.isAgg24 II.out LD8.out ?_)
                                          | (refine wpQuiet_loadS (by rfl) 24 (.tmp 156) rfl ⟨g1, 36, none⟩ rfl (encI (idOf 2)) Tryz.isAgg24 II.out LD9.out ?_)
                                          | (refine wpQuiet_loadS (by rfl) 99 (.tmp 19) rfl ⟨g19, 0, none⟩ rfl (encE ent2) Tryz.isAgg99 IE.out LD10.out ?_)
                                          | (refine wpQuiet_loadS (by rfl) 99 (.tmp 166) rfl ⟨g1, 34, none⟩ rfl (encE ent2) Tryz.isAgg99 IE.out LD11.out ?_)
                                          | quiet_step ((first | (go_at_call 64; exact Ext.call (QB.out _)) | (go_at_call 65; exact Ext.call (QC.out _)) | (go_at_call 22; exact Ext.call (QO.out _)) | (go_at_call 53; exact Ext.call (CRi.out _))))
                                          | go_big_quiet_step ((first | (go_at_call 64; exact Ext.call (QB.out _)) | (go_at_call 65; exact Ext.call (QC.out _)) | (go_at_call 22; exact Ext.call (QO.out _)) | (go_at_call 53; exact Ext.call (CRi.out _))))
                                          | skip)
                                        as_aux_lemma =>
                                          iterate 12 (first
                                            | (refine wpQuiet_loadS (by rfl) 99 (.tmp 100) rfl ⟨b3, o3 + 34, none⟩ rfl (encE ent2) Tryz.isAgg99 IE.out LD1.out ?_)
                                            | (refine wpQuiet_loadS (by rfl) 99 (.tmp 103) rfl ⟨g1, 34, none⟩ rfl (encE ent2) Tryz.isAgg99 IE.out LD2.out ?_)
                                            | (refine wpQuiet_loadS (by rfl) 28 (.tmp 6) rfl ⟨g6, 0, none⟩ rfl (comL com7 (some ⟨g4, 0, none⟩) 1 1) Tryz.isAgg28 (infoC _ _ _ _) LD3.out ?_)
                                            | (refine wpQuiet_loadS (by rfl) 28 (.tmp 9) rfl ⟨g9, 0, none⟩ rfl (comL com7 A7 1 d7) Tryz.isAgg28 (infoC _ _ _ _) LD4.out ?_)
                                            | (refine wpQuiet_loadS (by rfl) 30 (.tmp 11) rfl ⟨g11, 0, none⟩ rfl (objL ob2 (some ⟨g1, 0, none⟩) 2 2 none 0 0) Tryz.isAgg30 (infoO _ _ _ _ _ _ _) LD5.out ?_)
                                            | (refine wpQuiet_loadS (by rfl) 30 (.tmp 14) rfl ⟨g14, 0, none⟩ rfl (objL ob2 A11 2 c11 B11 0 d11) Tryz.isAgg30 (infoO _ _ _ _ _ _ _) LD6.out ?_)
                                            | (refine wpQuiet_loadS (by rfl) 24 (.tmp 16) rfl ⟨g16, 0, none⟩ rfl (encI sid) Tryz.isAgg24 IS.out LD7.out ?_)
                                            | (refine wpQuiet_loadS (by rfl) 24 (.tmp 152) rfl ⟨b15, o15 + 32, none⟩ rfl (encI (idOf 2)) Tryz.isAgg24 II.out LD8.out ?_)
                                            | (refine wpQuiet_loadS (by rfl) 24 (.tmp 156) rfl ⟨g1, 36, none⟩ rfl (encI (idOf 2)) Tryz.isAgg24 II.out LD9.out ?_)
                                            | (refine wpQuiet_loadS (by rfl) 99 (.tmp 19) rfl ⟨g19, 0, none⟩ rfl (encE ent2) Tryz.isAgg99 IE.out LD10.out ?_)
                                            | (refine wpQuiet_loadS (by rfl) 99 (.tmp 166) rfl ⟨g1, 34, none⟩ rfl (encE ent2) Tryz.isAgg99 IE.out LD11.out ?_)
                                            | quiet_step ((first | (go_at_call 64; exact Ext.call (QB.out _)) | (go_at_call 65; exact Ext.call (QC.out _)) | (go_at_call 22; exact Ext.call (QO.out _)) | (go_at_call 53; exact Ext.call (CRi.out _))))
                                            | go_big_quiet_step ((first | (go_at_call 64; exact Ext.call (QB.out _)) | (go_at_call 65; exact Ext.call (QC.out _)) | (go_at_call 22; exact Ext.call (QO.out _)) | (go_at_call 53; exact Ext.call (CRi.out _))))
                                            | skip)
                                          as_aux_lemma =>
                                            iterate 12 (first
                                              | (refine wpQuiet_loadS (by rfl) 99 (.tmp 100) rfl ⟨b3, o3 + 34, none⟩ rfl (encE ent2) Tryz.isAgg99 IE.out LD1.out ?_)
                                              | (refine wpQuiet_loadS (by rfl) 99 (.tmp 103) rfl ⟨g1, 34, none⟩ rfl (encE ent2) Tryz.isAgg99 IE.out LD2.out ?_)
                                              | (refine wpQuiet_loadS (by rfl) 28 (.tmp 6) rfl ⟨g6, 0, none⟩ rfl (comL com7 (some ⟨g4, 0, none⟩) 1 1) Tryz.isAgg28 (infoC _ _ _ _) LD3.out ?_)
                                              | (refine wpQuiet_loadS (by rfl) 28 (.tmp 9) rfl ⟨g9, 0, none⟩ rfl (comL com7 A7 1 d7) Tryz.isAgg28 (infoC _ _ _ _) LD4.out ?_)
                                              | (refine wpQuiet_loadS (by rfl) 30 (.tmp 11) rfl ⟨g11, 0, none⟩ rfl (objL ob2 (some ⟨g1, 0, none⟩) 2 2 none 0 0) Tryz.isAgg30 (infoO _ _ _ _ _ _ _) LD5.out ?_)
                                              | (refine wpQuiet_loadS (by rfl) 30 (.tmp 14) rfl ⟨g14, 0, none⟩ rfl (objL ob2 A11 2 c11 B11 0 d11) Tryz.isAgg30 (infoO _ _ _ _ _ _ _) LD6.out ?_)
                                              | (refine wpQuiet_loadS (by rfl) 24 (.tmp 16) rfl ⟨g16, 0, none⟩ rfl (encI sid) Tryz.isAgg24 IS.out LD7.out ?_)
                                              | (refine wpQuiet_loadS (by rfl) 24 (.tmp 152) rfl ⟨b15, o15 + 32, none⟩ rfl (encI (idOf 2)) Tryz.isAgg24 II.out LD8.out ?_)
                                              | (refine wpQuiet_loadS (by rfl) 24 (.tmp 156) rfl ⟨g1, 36, none⟩ rfl (encI (idOf 2)) Tryz.isAgg24 II.out LD9.out ?_)
                                              | (refine wpQuiet_loadS (by rfl) 99 (.tmp 19) rfl ⟨g19, 0, none⟩ rfl (encE ent2) Tryz.isAgg99 IE.out LD10.out ?_)
                                              | (refine wpQuiet_loadS (by rfl) 99 (.tmp 166) rfl ⟨g1, 34, none⟩ rfl (encE ent2) Tryz.isAgg99 IE.out LD11.out ?_)
                                              | quiet_step ((first | (go_at_call 64; exact Ext.call (QB.out _)) | (go_at_call 65; exact Ext.call (QC.out _)) | (go_at_call 22; exact Ext.call (QO.out _)) | (go_at_call 53; exact Ext.call (CRi.out _))))
                                              | go_big_quiet_step ((first | (go_at_call 64; exact Ext.call (QB.out _)) | (go_at_call 65; exact Ext.call (QC.out _)) | (go_at_call 22; exact Ext.call (QO.out _)) | (go_at_call 53; exact Ext.call (CRi.out _))))
                                              | skip)
                                            as_aux_lemma =>
                                              iterate 12 (first
                                                | (refine wpQuiet_loadS (by rfl) 99 (.tmp 100) rfl ⟨b3, o3 + 34, none⟩ rfl (encE ent2) Tryz.isAgg99 IE.out LD1.out ?_)
                                                | (refine wpQuiet_loadS (by rfl) 99 (.tmp 103) rfl ⟨g1, 34, none⟩ rfl (encE ent2) Tryz.isAgg99 IE.out LD2.out ?_)
                                                | (refine wpQuiet_loadS (by rfl) 28 (.tmp 6) rfl ⟨g6, 0, none⟩ rfl (comL com7 (some ⟨g4, 0, none⟩) 1 1) Tryz.isAgg28 (infoC _ _ _ _) LD3.out ?_)
                                                | (refine wpQuiet_loadS (by rfl) 28 (.tmp 9) rfl ⟨g9, 0, none⟩ rfl (comL com7 A7 1 d7) Tryz.isAgg28 (infoC _ _ _ _) LD4.out ?_)
                                                | (refine wpQuiet_loadS (by rfl) 30 (.tmp 11) rfl ⟨g11, 0, none⟩ rfl (objL ob2 (some ⟨g1, 0, none⟩) 2 2 none 0 0) Tryz.isAgg30 (infoO _ _ _ _ _ _ _) LD5.out ?_)
                                                | (refine wpQuiet_loadS (by rfl) 30 (.tmp 14) rfl ⟨g14, 0, none⟩ rfl (objL ob2 A11 2 c11 B11 0 d11) Tryz.isAgg30 (infoO _ _ _ _ _ _ _) LD6.out ?_)
                                                | (refine wpQuiet_loadS (by rfl) 24 (.tmp 16) rfl ⟨g16, 0, none⟩ rfl (encI sid) Tryz.isAgg24 IS.out LD7.out ?_)
                                                | (refine wpQuiet_loadS (by rfl) 24 (.tmp 152) rfl ⟨b15, o15 + 32, none⟩ rfl (encI (idOf 2)) Tryz.isAgg24 II.out LD8.out ?_)
                                                | (refine wpQuiet_loadS (by rfl) 24 (.tmp 156) rfl ⟨g1, 36, none⟩ rfl (encI (idOf 2)) Tryz.isAgg24 II.out LD9.out ?_)
                                                | (refine wpQuiet_loadS (by rfl) 99 (.tmp 19) rfl ⟨g19, 0, none⟩ rfl (encE ent2) Tryz.isAgg99 IE.out LD10.out ?_)
                                                | (refine wpQuiet_loadS (by rfl) 99 (.tmp 166) rfl ⟨g1, 34, none⟩ rfl (encE ent2) Tryz.isAgg99 IE.out LD11.out ?_)
                                                | quiet_step ((first | (go_at_call 64; exact Ext.call (QB.out _)) | (go_at_call 65; exact Ext.call (QC.out _)) | (go_at_call 22; exact Ext.call (QO.out _)) | (go_at_call 53; exact Ext.call (CRi.out _))))
                                                | go_big_quiet_step ((first | (go_at_call 64; exact Ext.call (QB.out _)) | (go_at_call 65; exact Ext.call (QC.out _)) | (go_at_call 22; exact Ext.call (QO.out _)) | (go_at_call 53; exact Ext.call (CRi.out _))))
                                                | skip)
                                              as_aux_lemma =>
                                                repeat (first
                                                  | (refine wpQuiet_loadS (by rfl) 99 (.tmp 100) rfl ⟨b3, o3 + 34, none⟩ rfl (encE ent2) Tryz.isAgg99 IE.out LD1.out ?_)
                                                  | (refine wpQuiet_loadS (by rfl) 99 (.tmp 103) rfl ⟨g1, 34, none⟩ rfl (encE ent2) Tryz.isAgg99 IE.out LD2.out ?_)
                                                  | (refine wpQuiet_loadS (by rfl) 28 (.tmp 6) rfl ⟨g6, 0, none⟩ rfl (comL com7 (some ⟨g4, 0, none⟩) 1 1) Tryz.isAgg28 (infoC _ _ _ _) LD3.out ?_)
                                                  | (refine wpQuiet_loadS (by rfl) 28 (.tmp 9) rfl ⟨g9, 0, none⟩ rfl (comL com7 A7 1 d7) Tryz.isAgg28 (infoC _ _ _ _) LD4.out ?_)
                                                  | (refine wpQuiet_loadS (by rfl) 30 (.tmp 11) rfl ⟨g11, 0, none⟩ rfl (objL ob2 (some ⟨g1, 0, none⟩) 2 2 none 0 0) Tryz.isAgg30 (infoO _ _ _ _ _ _ _) LD5.out ?_)
                                                  | (refine wpQuiet_loadS (by rfl) 30 (.tmp 14) rfl ⟨g14, 0, none⟩ rfl (objL ob2 A11 2 c11 B11 0 d11) Tryz.isAgg30 (infoO _ _ _ _ _ _ _) LD6.out ?_)
                                                  | (refine wpQuiet_loadS (by rfl) 24 (.tmp 16) rfl ⟨g16, 0, none⟩ rfl (encI sid) Tryz.isAgg24 IS.out LD7.out ?_)
                                                  | (refine wpQuiet_loadS (by rfl) 24 (.tmp 152) rfl ⟨b15, o15 + 32, none⟩ rfl (encI (idOf 2)) Tryz.isAgg24 II.out LD8.out ?_)
                                                  | (refine wpQuiet_loadS (by rfl) 24 (.tmp 156) rfl ⟨g1, 36, none⟩ rfl (encI (idOf 2)) Tryz.isAgg24 II.out LD9.out ?_)
                                                  | (refine wpQuiet_loadS (by rfl) 99 (.tmp 19) rfl ⟨g19, 0, none⟩ rfl (encE ent2) Tryz.isAgg99 IE.out LD10.out ?_)
                                                  | (refine wpQuiet_loadS (by rfl) 99 (.tmp 166) rfl ⟨g1, 34, none⟩ rfl (encE ent2) Tryz.isAgg99 IE.out LD11.out ?_)
                                                  | quiet_step ((first | (go_at_call 64; exact Ext.call (QB.out _)) | (go_at_call 65; exact Ext.call (QC.out _)) | (go_at_call 22; exact Ext.call (QO.out _)) | (go_at_call 53; exact Ext.call (CRi.out _))))
                                                  | go_big_quiet_step ((first | (go_at_call 64; exact Ext.call (QB.out _)) | (go_at_call 65; exact Ext.call (QC.out _)) | (go_at_call 22; exact Ext.call (QO.out _)) | (go_at_call 53; exact Ext.call (CRi.out _)))))
                                                refine wpQuiet_nil ?_
                                                rintro _ ⟨s9, rfl⟩
                                                go_wp2
                                                go_ret
                                                exact ⟨rfl, LZ.out.trans (s9.below.mono LZ.out.size)⟩
end Go.Proofs.YtpbnigpdpkfpaaaGreatDoor
