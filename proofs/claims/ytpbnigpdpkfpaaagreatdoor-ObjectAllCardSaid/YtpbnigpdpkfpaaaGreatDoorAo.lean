/- ObjectAll: objects of all kinds as bytes, and back: the law's walk. (printed by wip/genAo.py) -/
import Derived.Test.YtpbnigpdpkfpaaaGreatDoorP16x
import Derived.Test.YtpbnigpdpkfpaaaGreatDoorP20x
import Derived.Test.YtpbnigpdpkfpaaaGreatDoorP6x
import Derived.Test.YtpbnigpdpkfpaaaGreatDoorBn
import Derived.Test.YtpbnigpdpkfpaaaGreatDoorP5x
import Derived.Test.YtpbnigpdpkfpaaaGreatDoorP8x
namespace Go.Proofs.YtpbnigpdpkfpaaaGreatDoor
open Go.RowKit
set_option maxRecDepth 20000 in
set_option maxHeartbeats 12800000 in
theorem objectAllLaw_any (W : World) (o : Obt) (A : Option Addr) (n k : Nat) (B : Option Addr) (m d : Nat) (h : ObAt W o A n k B m d) (p : Obt) (A' : Option Addr) (n' k' : Nat) (B' : Option Addr) (m' d' : Nat) (h' : ObAt W p A' n' k' B' m' d') (ki : Int) (s : ByteArray) (hG : Gl W) (hE : Ge W) :
    Calls Tryz.prog 3 #[.agg (objL o A n k B m d).toArray, .agg (objL p A' n' k' B' m' d').toArray, .int .i64 ki, .string s] W fun e W' => e = .returned (.bool true) ∧ Below W.heap.size W W' := by
  obtain ⟨w0, hw0⟩ : ∃ w0, w0 = (W.alloc (.cells (objL o A n k B m d).toArray 30)).alloc (.cells (objL p A' n' k' B' m' d').toArray 30) := ⟨_, rfl⟩
  have l0 : Below W.heap.size W w0 := by rw [hw0]; exact ((Below.refl _ _).alloc (Nat.le_refl _) _).alloc (by rw [hsz]; omega) _
  have x0 : Blk w0 W.heap.size 30 (objL o A n k B m d) := by rw [hw0]; exact (Blk.new W _ _).alloc _
  have y0 : Blk w0 (W.heap.size + 1) 30 (objL p A' n' k' B' m' d') := by
    have := Blk.new (W.alloc (.cells (objL o A n k B m d).toArray 30)) 30 (objL p A' n' k' B' m' d')
    rwa [hsz, ← hw0] at this
  have cB := begun6_any w0 (hG.below l0) (hE.below l0)
  have cC := fun w (hw : Below W.heap.size W w) => cutO_any w o A n k B m d (h.below hw)
  have cD := fun w (hw : Below W.heap.size W w) => cutO_any w p A' n' k' B' m' d' (h'.below hw)
  have f1 := cut_fit h (min n 22) (min m 6)
  have f2 := cut_fit h' (min n' 22) (min m' 6)
  generalize cutOb o (min n 22) (min m 6) = c1 at cC f1
  generalize cutOb p (min n' 22) (min m' 6) = e1 at cD f2
  have ic := infoO o A n k B m d
  have id' := infoO p A' n' k' B' m' d'
  obtain ⟨g1, hg1⟩ : ∃ g, g = W.heap.size := ⟨_, rfl⟩
  obtain ⟨g2, hg2⟩ : ∃ g, g = W.heap.size + 1 := ⟨_, rfl⟩
  rw [← hg1] at x0
  rw [← hg2] at y0
  have gn : g1 < w0.heap.size ∧ g2 < w0.heap.size ∧ W.heap.size ≤ g1 ∧ W.heap.size ≤ g2 := ⟨x0.lt, y0.lt, by omega, by omega⟩
  have CLZ := Lib.hid (objL_len o A n k B m d)
  have DLZ := Lib.hid (objL_len p A' n' k' B' m' d')
  obtain ⟨cl, hcl⟩ : ∃ cl, cl = objL o A n k B m d := ⟨_, rfl⟩
  obtain ⟨dl, hdl⟩ : ∃ dl, dl = objL p A' n' k' B' m' d' := ⟨_, rfl⟩
  rw [← hcl] at hw0 x0 cC ic CLZ ⊢
  rw [← hdl] at hw0 y0 cD id' DLZ ⊢
  obtain ⟨sb, hsb⟩ : ∃ sb : ByteArray, sb = ⟨(s.data.toList.take 1010).toArray⟩ := ⟨_, rfl⟩
  have cT : ∀ w, Calls Tryz.prog 17 #[.string s, .int .i64 1010] w fun e w' => e = .returned (.string sb) ∧ w' = w := fun w => by rw [hsb]; exact text_cut w s 1010
  have hsz : sb.size ≤ 1010 := by rw [ba_size, hsb]; exact List.length_take_le _ _
  have CB := Lib.hid cB
  have CC := Lib.hid cC
  have CD := Lib.hid cD
  have CT := Lib.hid cT
  have X0 := Lib.hid x0
  have Y0 := Lib.hid y0
  have L0 := Lib.hid l0
  have IC := Lib.hid ic
  have ID := Lib.hid id'
  have HG := Lib.hid hG
  have HE := Lib.hid hE
  have GN := Lib.hid gn
  have NE : Hid (g1 ≠ g2) := Lib.hid (by omega)
  have F1 := Lib.hid f1
  have F2 := Lib.hid f2
  have SZ := Lib.hid hsz
  clear cB cC cD cT x0 y0 l0 ic id' hG hE gn f1 f2 hcl hdl hsb hsz h h'
  go_enter Tryz.func3, Tryz.ntmps3
  go_upto_region 1 with fail
  change Code.wp _ _ _ _ ((W.alloc (.cells cl.toArray 30)).alloc (.cells dl.toArray 30))
  rw [← hw0, ← hg2, ← hg1]
  clear hw0 hg1 hg2
  go_upto_region 4 with (go_at_call 15; refine CB.out.mono ?_; rintro e w1 ⟨rfl, hb⟩; have B1 := Lib.hid hb; clear hb)
  clear CB
  go_cut [3] (fun v wx => v = .string sb ∧ TwoO W w0.heap.size g1 g2 c1 e1 wx)
  case first =>
    refine wp_region_any (by kernel_rfl) ?_
    change wpAny _ _ _ _ _ _ _ (World.drew _)
    have D1 : Hid (Below w0.heap.size w0 w1.drew) := Lib.hid B1.out.drew
    have X1 : Hid (Blk w1.drew g1 30 cl) := Lib.hid (X0.out.below D1.out)
    have Y1 : Hid (Blk w1.drew g2 30 dl) := Lib.hid (Y0.out.below D1.out)
    generalize World.drew w1 = v0 at D1 X1 Y1 ⊢
    clear X0 Y0 B1
    refine wpAny_bare [4] 8 (by rfl) (by kernel_rfl) (fun _ _ _ d _ h => by cases d <;> exact h) ?_
    simp only [bareO, List.filterMap_cons, List.filterMap_nil, List.getElem?_toArray, List.getElem?_cons_succ, List.getElem?_cons_zero]
    repeat (first | quiet_step (fail) | go_big_quiet_step (fail))
    refine wpQuiet_nil ?_
    refine wpAny_ready (rs := [0, 2]) (by kernel_rfl) (by simp) ?_
    refine (AllReady.cons rfl (fun K hK => ?_) (AllReady.cons rfl (fun K hK => ?_) AllReady.nil))
    · skip
      refine step_loadI (by rfl) 30 (.tmp 4) rfl ⟨g1, 0, none⟩ rfl cl (Tryz.isAgg30 _) IC.out (fun j u hu => by rw [addr_row _ rfl, Nat.zero_add]; exact X1.out.cell j u hu) ?_
      refine hK _ _ ?_
      clear hK K
      refine wpAny_ready (rs := [1, 2]) (by kernel_rfl) (by simp) ?_
      refine (AllReady.cons rfl (fun K hK => ?_) (AllReady.cons rfl (fun K hK => ?_) AllReady.nil))
      · skip
        refine step_callH (by rfl) 16 #[.agg cl.toArray] (by first | rfl | (simp [execOp, go_sem]; done) | (unfold execOp; go_simp; done) | (unfold execOp; simp; rfl)) (fun v w' => ∃ z, v = .agg z.toArray ∧ HasO w' w0.heap.size c1 z ∧ Below w0.heap.size w0 w' ∧ Below v0.heap.size v0 w') ((CC.out _ (L0.out.trans (D1.out.mono L0.out.size))).mono fun e w' ⟨z, he, hr, hb⟩ => ⟨_, he, z, rfl, hr.mono D1.out.size, D1.out.trans (hb.mono D1.out.size), hb⟩) ?_
        rintro _ w2 ⟨z2, rfl, hr, hb, hv⟩
        have R2 := Lib.hid hr
        have D2 := Lib.hid hb
        have X2 := Lib.hid (X1.out.below hv)
        have Y2 := Lib.hid (Y1.out.below hv)
        clear hr hb hv
        refine hK _ _ ?_
        clear hK K
        go_simp
        refine wpAny_ready (rs := [2]) (by kernel_rfl) (by simp) ?_
        refine (AllReady.cons rfl (fun K hK => ?_) AllReady.nil)
        refine step_loadI (by rfl) 30 (.tmp 5) rfl ⟨g2, 0, none⟩ rfl dl (Tryz.isAgg30 _) ID.out (fun j u hu => by rw [addr_row _ rfl, Nat.zero_add]; exact Y2.out.cell j u hu) ?_
        refine hK _ _ ?_
        clear hK K
        refine wpAny_ready (rs := [3]) (by kernel_rfl) (by simp) ?_
        refine (AllReady.cons rfl (fun K hK => ?_) AllReady.nil)
        refine step_callH (by rfl) 16 #[.agg dl.toArray] (by first | rfl | (simp [execOp, go_sem]; done) | (unfold execOp; go_simp; done) | (unfold execOp; simp; rfl)) (fun v w' => ∃ z, v = .agg z.toArray ∧ HasO w' w0.heap.size e1 z ∧ Below w0.heap.size w0 w' ∧ Below w2.heap.size w2 w') ((CD.out _ (L0.out.trans (D2.out.mono L0.out.size))).mono fun e w' ⟨z, he, hr, hb⟩ => ⟨_, he, z, rfl, hr.mono D2.out.size, D2.out.trans (hb.mono D2.out.size), hb⟩) ?_
        rintro _ w3 ⟨z3, rfl, hr, hb, hv⟩
        have R3 := Lib.hid hr
        have Q3 := Lib.hid (R2.out.below hv)
        have D3 := Lib.hid hb
        have X3 := Lib.hid (X2.out.below hv)
        have Y3 := Lib.hid (Y2.out.below hv)
        clear hr hb hv
        refine hK _ _ ?_
        clear hK K
        go_simp
        refine wpAny_ready (rs := [5]) (by kernel_rfl) (by simp) ?_
        refine (AllReady.cons rfl (fun K hK => ?_) AllReady.nil)
        refine step_callH (by rfl) 17 #[.string s, .int .i64 1010] (by first | rfl | (simp [execOp, go_sem]; done) | (unfold execOp; go_simp; done) | (unfold execOp; simp; rfl)) (fun v w' => v = .string sb ∧ w' = w3) ((CT.out _).mono fun e w' ⟨he, hw⟩ => ⟨_, he, rfl, hw⟩) ?_
        rintro _ _ ⟨rfl, rfl⟩
        refine hK _ _ ?_
        clear hK K
        go_simp
        refine wpAny_ready (rs := [6]) (by kernel_rfl) (by simp) ?_
        refine (AllReady.cons rfl (fun K hK => ?_) AllReady.nil)
        refine step_storeS (by rfl) 30 (.tmp 4) (.tmp 25) rfl g1 z2 rfl rfl 30 cl X3.out Q3.out.info (by rw [CLZ.out, Q3.out.len]) Q3.out.one ?_
        refine hK _ _ ?_
        clear hK K
        go_simp
        refine wpAny_ready (rs := [7]) (by kernel_rfl) (by simp) ?_
        refine (AllReady.cons rfl (fun K hK => ?_) AllReady.nil)
        refine step_storeS (by rfl) 30 (.tmp 5) (.tmp 27) rfl g2 z3 rfl rfl 30 dl (Y3.out.rowFar NE.out.symm _) R3.out.info (by rw [DLZ.out, R3.out.len]) R3.out.one ?_
        refine hK _ _ ?_
        clear hK K
        go_simp
        refine wpAny_ready (rs := [8]) (by kernel_rfl) (by simp) ?_
        refine (AllReady.cons rfl (fun K hK => ?_) AllReady.nil)
        go_simp
        refine hK _ _ ?_
        clear hK K
        refine wpAny_done (by kernel_rfl) ?_ _
        go_wp2
        go_meet
        exact ⟨rfl, TwoO.laid X3.out Y3.out Q3.out R3.out (L0.out.trans (D3.out.mono L0.out.size)) NE.out GN.out.1 GN.out.2.1 GN.out.2.2.1 GN.out.2.2.2⟩
      · skip
        refine step_loadI (by rfl) 30 (.tmp 5) rfl ⟨g2, 0, none⟩ rfl dl (Tryz.isAgg30 _) ID.out (fun j u hu => by rw [addr_row _ rfl, Nat.zero_add]; exact Y1.out.cell j u hu) ?_
        refine hK _ _ ?_
        clear hK K
        refine wpAny_ready (rs := [1]) (by kernel_rfl) (by simp) ?_
        refine (AllReady.cons rfl (fun K hK => ?_) AllReady.nil)
        refine step_callH (by rfl) 16 #[.agg cl.toArray] (by first | rfl | (simp [execOp, go_sem]; done) | (unfold execOp; go_simp; done) | (unfold execOp; simp; rfl)) (fun v w' => ∃ z, v = .agg z.toArray ∧ HasO w' w0.heap.size c1 z ∧ Below w0.heap.size w0 w' ∧ Below v0.heap.size v0 w') ((CC.out _ (L0.out.trans (D1.out.mono L0.out.size))).mono fun e w' ⟨z, he, hr, hb⟩ => ⟨_, he, z, rfl, hr.mono D1.out.size, D1.out.trans (hb.mono D1.out.size), hb⟩) ?_
        rintro _ w2 ⟨z2, rfl, hr, hb, hv⟩
        have R2 := Lib.hid hr
        have D2 := Lib.hid hb
        have X2 := Lib.hid (X1.out.below hv)
        have Y2 := Lib.hid (Y1.out.below hv)
        clear hr hb hv
        refine hK _ _ ?_
        clear hK K
        go_simp
        refine wpAny_ready (rs := [3]) (by kernel_rfl) (by simp) ?_
        refine (AllReady.cons rfl (fun K hK => ?_) AllReady.nil)
        refine step_callH (by rfl) 16 #[.agg dl.toArray] (by first | rfl | (simp [execOp, go_sem]; done) | (unfold execOp; go_simp; done) | (unfold execOp; simp; rfl)) (fun v w' => ∃ z, v = .agg z.toArray ∧ HasO w' w0.heap.size e1 z ∧ Below w0.heap.size w0 w' ∧ Below w2.heap.size w2 w') ((CD.out _ (L0.out.trans (D2.out.mono L0.out.size))).mono fun e w' ⟨z, he, hr, hb⟩ => ⟨_, he, z, rfl, hr.mono D2.out.size, D2.out.trans (hb.mono D2.out.size), hb⟩) ?_
        rintro _ w3 ⟨z3, rfl, hr, hb, hv⟩
        have R3 := Lib.hid hr
        have Q3 := Lib.hid (R2.out.below hv)
        have D3 := Lib.hid hb
        have X3 := Lib.hid (X2.out.below hv)
        have Y3 := Lib.hid (Y2.out.below hv)
        clear hr hb hv
        refine hK _ _ ?_
        clear hK K
        go_simp
        refine wpAny_ready (rs := [5]) (by kernel_rfl) (by simp) ?_
        refine (AllReady.cons rfl (fun K hK => ?_) AllReady.nil)
        refine step_callH (by rfl) 17 #[.string s, .int .i64 1010] (by first | rfl | (simp [execOp, go_sem]; done) | (unfold execOp; go_simp; done) | (unfold execOp; simp; rfl)) (fun v w' => v = .string sb ∧ w' = w3) ((CT.out _).mono fun e w' ⟨he, hw⟩ => ⟨_, he, rfl, hw⟩) ?_
        rintro _ _ ⟨rfl, rfl⟩
        refine hK _ _ ?_
        clear hK K
        go_simp
        refine wpAny_ready (rs := [6]) (by kernel_rfl) (by simp) ?_
        refine (AllReady.cons rfl (fun K hK => ?_) AllReady.nil)
        refine step_storeS (by rfl) 30 (.tmp 4) (.tmp 25) rfl g1 z2 rfl rfl 30 cl X3.out Q3.out.info (by rw [CLZ.out, Q3.out.len]) Q3.out.one ?_
        refine hK _ _ ?_
        clear hK K
        go_simp
        refine wpAny_ready (rs := [7]) (by kernel_rfl) (by simp) ?_
        refine (AllReady.cons rfl (fun K hK => ?_) AllReady.nil)
        refine step_storeS (by rfl) 30 (.tmp 5) (.tmp 27) rfl g2 z3 rfl rfl 30 dl (Y3.out.rowFar NE.out.symm _) R3.out.info (by rw [DLZ.out, R3.out.len]) R3.out.one ?_
        refine hK _ _ ?_
        clear hK K
        go_simp
        refine wpAny_ready (rs := [8]) (by kernel_rfl) (by simp) ?_
        refine (AllReady.cons rfl (fun K hK => ?_) AllReady.nil)
        go_simp
        refine hK _ _ ?_
        clear hK K
        refine wpAny_done (by kernel_rfl) ?_ _
        go_wp2
        go_meet
        exact ⟨rfl, TwoO.laid X3.out Y3.out Q3.out R3.out (L0.out.trans (D3.out.mono L0.out.size)) NE.out GN.out.1 GN.out.2.1 GN.out.2.2.1 GN.out.2.2.2⟩
    · skip
      refine step_loadI (by rfl) 30 (.tmp 5) rfl ⟨g2, 0, none⟩ rfl dl (Tryz.isAgg30 _) ID.out (fun j u hu => by rw [addr_row _ rfl, Nat.zero_add]; exact Y1.out.cell j u hu) ?_
      refine hK _ _ ?_
      clear hK K
      refine wpAny_ready (rs := [0]) (by kernel_rfl) (by simp) ?_
      refine (AllReady.cons rfl (fun K hK => ?_) AllReady.nil)
      refine step_loadI (by rfl) 30 (.tmp 4) rfl ⟨g1, 0, none⟩ rfl cl (Tryz.isAgg30 _) IC.out (fun j u hu => by rw [addr_row _ rfl, Nat.zero_add]; exact X1.out.cell j u hu) ?_
      refine hK _ _ ?_
      clear hK K
      refine wpAny_ready (rs := [1]) (by kernel_rfl) (by simp) ?_
      refine (AllReady.cons rfl (fun K hK => ?_) AllReady.nil)
      refine step_callH (by rfl) 16 #[.agg cl.toArray] (by first | rfl | (simp [execOp, go_sem]; done) | (unfold execOp; go_simp; done) | (unfold execOp; simp; rfl)) (fun v w' => ∃ z, v = .agg z.toArray ∧ HasO w' w0.heap.size c1 z ∧ Below w0.heap.size w0 w' ∧ Below v0.heap.size v0 w') ((CC.out _ (L0.out.trans (D1.out.mono L0.out.size))).mono fun e w' ⟨z, he, hr, hb⟩ => ⟨_, he, z, rfl, hr.mono D1.out.size, D1.out.trans (hb.mono D1.out.size), hb⟩) ?_
      rintro _ w2 ⟨z2, rfl, hr, hb, hv⟩
      have R2 := Lib.hid hr
      have D2 := Lib.hid hb
      have X2 := Lib.hid (X1.out.below hv)
      have Y2 := Lib.hid (Y1.out.below hv)
      clear hr hb hv
      refine hK _ _ ?_
      clear hK K
      go_simp
      refine wpAny_ready (rs := [3]) (by kernel_rfl) (by simp) ?_
      refine (AllReady.cons rfl (fun K hK => ?_) AllReady.nil)
      refine step_callH (by rfl) 16 #[.agg dl.toArray] (by first | rfl | (simp [execOp, go_sem]; done) | (unfold execOp; go_simp; done) | (unfold execOp; simp; rfl)) (fun v w' => ∃ z, v = .agg z.toArray ∧ HasO w' w0.heap.size e1 z ∧ Below w0.heap.size w0 w' ∧ Below w2.heap.size w2 w') ((CD.out _ (L0.out.trans (D2.out.mono L0.out.size))).mono fun e w' ⟨z, he, hr, hb⟩ => ⟨_, he, z, rfl, hr.mono D2.out.size, D2.out.trans (hb.mono D2.out.size), hb⟩) ?_
      rintro _ w3 ⟨z3, rfl, hr, hb, hv⟩
      have R3 := Lib.hid hr
      have Q3 := Lib.hid (R2.out.below hv)
      have D3 := Lib.hid hb
      have X3 := Lib.hid (X2.out.below hv)
      have Y3 := Lib.hid (Y2.out.below hv)
      clear hr hb hv
      refine hK _ _ ?_
      clear hK K
      go_simp
      refine wpAny_ready (rs := [5]) (by kernel_rfl) (by simp) ?_
      refine (AllReady.cons rfl (fun K hK => ?_) AllReady.nil)
      refine step_callH (by rfl) 17 #[.string s, .int .i64 1010] (by first | rfl | (simp [execOp, go_sem]; done) | (unfold execOp; go_simp; done) | (unfold execOp; simp; rfl)) (fun v w' => v = .string sb ∧ w' = w3) ((CT.out _).mono fun e w' ⟨he, hw⟩ => ⟨_, he, rfl, hw⟩) ?_
      rintro _ _ ⟨rfl, rfl⟩
      refine hK _ _ ?_
      clear hK K
      go_simp
      refine wpAny_ready (rs := [6]) (by kernel_rfl) (by simp) ?_
      refine (AllReady.cons rfl (fun K hK => ?_) AllReady.nil)
      refine step_storeS (by rfl) 30 (.tmp 4) (.tmp 25) rfl g1 z2 rfl rfl 30 cl X3.out Q3.out.info (by rw [CLZ.out, Q3.out.len]) Q3.out.one ?_
      refine hK _ _ ?_
      clear hK K
      go_simp
      refine wpAny_ready (rs := [7]) (by kernel_rfl) (by simp) ?_
      refine (AllReady.cons rfl (fun K hK => ?_) AllReady.nil)
      refine step_storeS (by rfl) 30 (.tmp 5) (.tmp 27) rfl g2 z3 rfl rfl 30 dl (Y3.out.rowFar NE.out.symm _) R3.out.info (by rw [DLZ.out, R3.out.len]) R3.out.one ?_
      refine hK _ _ ?_
      clear hK K
      go_simp
      refine wpAny_ready (rs := [8]) (by kernel_rfl) (by simp) ?_
      refine (AllReady.cons rfl (fun K hK => ?_) AllReady.nil)
      go_simp
      refine hK _ _ ?_
      clear hK K
      refine wpAny_done (by kernel_rfl) ?_ _
      go_wp2
      go_meet
      exact ⟨rfl, TwoO.laid X3.out Y3.out Q3.out R3.out (L0.out.trans (D3.out.mono L0.out.size)) NE.out GN.out.1 GN.out.2.1 GN.out.2.2.1 GN.out.2.2.2⟩
  case rest =>
    obtain ⟨rfl, hT⟩ := hcut
    obtain ⟨⟨x, y, hx, hy, hr, ht⟩, hl⟩ := hT
    have IX := Lib.hid hr.info
    have IY := Lib.hid ht.info
    obtain ⟨A2, q2, k2, B2, r2, d2, ex, at2, hq2, hr2⟩ := hr.at F1.out
    obtain ⟨A3, q3, k3, B3, r3, d3, ey, at3, hq3, hr3⟩ := ht.at F2.out
    have cM := fun w (hw : Below wc.heap.size wc w) => rmayO_any w c1 A2 q2 k2 B2 r2 d2 (at2.below hw) (by omega) (by omega)
    have cP := fun w (hw : Below wc.heap.size wc w) => objPut_any w c1 A2 q2 k2 B2 r2 d2 (at2.below hw) (by omega) (by omega) (HG.out.below (hl.trans (hw.mono hl.size)))
    have cI := fun w (hw : Below wc.heap.size wc w) => objId_any w c1 A2 q2 k2 B2 r2 d2 (at2.below hw) (by omega) (by omega) (HG.out.below (hl.trans (hw.mono hl.size)))
    have cN := fun w (hw : Below wc.heap.size wc w) => objMay_any w c1 A2 q2 k2 B2 r2 d2 (at2.below hw) (by omega) (by omega)
    have cE := fun w (hw : Below wc.heap.size wc w) => objEq_any w c1 e1 A2 q2 k2 B2 r2 d2 A3 q3 k3 B3 r3 d3 (at2.below hw) (at3.below hw) (by omega) (by omega) (by omega) (by omega)
    have cF := fun w (hw : Below wc.heap.size wc w) => reqO_any w c1 e1 A2 q2 k2 B2 r2 d2 A3 q3 k3 B3 r3 d3 (at2.below hw) (at3.below hw) (by omega) (by omega) (by omega) (by omega)
    have cX := fun hm w (hw : Below wc.heap.size wc w) => rputO_any w c1 A2 q2 k2 B2 r2 d2 (at2.below hw) hm
    have cY := fun hm w (hw : Below wc.heap.size wc w) => ridO_any w c1 A2 q2 k2 B2 r2 d2 (at2.below hw) hm
    have cL := fun w (hw : Below wc.heap.size wc w) => links_any w c1 A2 q2 k2 B2 r2 d2 (at2.below hw) (by omega) (by omega)
    have cK := fun hm w (hw : Below wc.heap.size wc w) => rlinks_any w c1 A2 q2 k2 B2 r2 d2 (at2.below hw) (by omega) (by omega) hm
    have x0 : x[0]? = some (.int .i64 c1.kd) := by rw [ex]; rfl
    have cQ : ∀ (o3 : Obt), FitO o3 → ∀ w, Below wc.heap.size wc w → ∀ z N, HasO w N o3 z → Calls Tryz.prog 22 #[.agg z.toArray, .agg x.toArray] w fun e w' => e = .returned (.bool (eqO o3 c1)) ∧ Below w.heap.size w w' := fun o3 hf w hw z N hh => by
      obtain ⟨A4, q4, k4, B4, r4, d4, e4, at4, hq4, hr4⟩ := hh.at hf
      rw [e4, ex]
      exact objEq_any w o3 c1 A4 q4 k4 B4 r4 d4 A2 q2 k2 B2 r2 d2 at4 (at2.below hw) (by omega) (by omega) (by omega) (by omega)
    have CQ := Lib.hid cQ
    have hll : (linksO c1).length ≤ 22 := by
      have := at2.len
      have := at2.com.len
      unfold linksO
      split
      · rw [List.length_map]; omega
      · split
        · rw [List.length_cons]; omega
        · exact Nat.zero_le _
    have LL := Lib.hid hll
    clear cQ hll
    generalize eqO c1 e1 = ev at cE cF
    rw [← ex] at cM cP cI cN cE cF cX cY cL cK
    rw [← ey] at cE cF
    obtain ⟨mc, hmc⟩ : ∃ mc, mc = mayO c1 := ⟨_, rfl⟩
    obtain ⟨ab, hab⟩ : ∃ ab : ByteArray, ab = ⟨(bif mc then putO c1 else []).toArray⟩ := ⟨_, rfl⟩
    obtain ⟨jv, hjv⟩ : ∃ jv, jv = bif mc then Bs (sha256 (ofL c1.kd (putO c1))) else zero32 := ⟨_, rfl⟩
    have hpv : putOV c1 = .tuple #[.string ab, .bool mc] := by rw [hab, hmc]; rfl
    have hiv : idOV c1 = .tuple #[.agg jv.toArray, .bool mc] := by
      unfold idOV
      rw [hjv, ← hmc]
      cases mc <;> rfl
    have jl : jv.length = 32 := by rw [hjv]; cases mc <;> simp [zero32]
    have jo : ∀ v ∈ jv, v.oneCell' = true := by rw [hjv]; cases mc; exact Bs_one _; exact Bs_one _
    rw [← hmc] at cM cN
    rw [hpv] at cP
    rw [hiv] at cI
    have JL := Lib.hid jl
    have JO := Lib.hid jo
    have CM := Lib.hid cM
    have CP := Lib.hid cP
    have CI := Lib.hid cI
    have CN := Lib.hid cN
    have CE := Lib.hid cE
    have CF := Lib.hid cF
    have CX := Lib.hid cX
    have CY := Lib.hid cY
    have CL := Lib.hid cL
    have CK := Lib.hid cK
    have XC := Lib.hid hx
    have YC := Lib.hid hy
    have LC := Lib.hid hl
    have HMC := Lib.hid hmc
    have HAB := Lib.hid hab
    have HJV := Lib.hid hjv
    have Z0 := Lib.hid x0
    clear hx hy hl hr ht ex ey at2 at3 hq2 hr2 hq3 hr3 cM cP cI cN cE cF cX cY cL cK x0 hmc hab hjv hpv hiv jl jo CC CD CT X0 Y0 L0 IC ID B1 CLZ DLZ NE GN
    go_upto_region 8 with (first
      | (refine wpl_loadS rfl 30 (.tmp 4) rfl ⟨g1, 0, none⟩ rfl x Tryz.isAgg30 IX.out (fun j u hu => by rw [addr_row _ rfl, Nat.zero_add]; exact XC.out.cell j u hu) ?_)
      | (go_at_call 18; refine (CM.out _ (Below.refl _ _)).mono ?_; rintro e w3 ⟨rfl, hb⟩; have L3 := Lib.hid hb; have X3 := Lib.hid (XC.out.below hb); clear hb)
      | (refine wpl_loadS rfl 30 (.tmp 4) rfl ⟨g1, 0, none⟩ rfl x Tryz.isAgg30 IX.out (fun j u hu => by rw [addr_row _ rfl, Nat.zero_add]; exact X3.out.cell j u hu) ?_)
      | (go_at_call 19; refine (CP.out _ L3.out).mono ?_; rintro e w4 ⟨rfl, hb⟩; have L4 := Lib.hid (L3.out.trans (hb.mono L3.out.size)); have X4 := Lib.hid (X3.out.below hb); clear hb)
      | (refine wpl_loadS rfl 30 (.tmp 4) rfl ⟨g1, 0, none⟩ rfl x Tryz.isAgg30 IX.out (fun j u hu => by rw [addr_row _ rfl, Nat.zero_add]; exact X4.out.cell j u hu) ?_)
      | (go_at_call 20; refine (CI.out _ L4.out).mono ?_; rintro e w5 ⟨rfl, hb⟩; have L5 := Lib.hid (L4.out.trans (hb.mono L4.out.size)); clear hb)
      | (refine wpl_storeS rfl 24 (.tmp 13) _ rfl w5.heap.size jv rfl rfl 24 zero32 (Blk.new w5 _ _) (by rw [Tryz.sizeId, JL.out]) (by rw [JL.out]; simp [zero32]) JO.out ?_))
    generalize hw6 : World.setRow _ _ _ = w6
    have S6 : Below w5.heap.size w5 w6 := by rw [← hw6]; exact (laidS w5 24 zero32 _).1
    have K6 : Hid (Blk w6 w5.heap.size 24 jv) := Lib.hid (by rw [← hw6]; exact (laidS w5 24 zero32 _).2)
    have L6 := Lib.hid (L5.out.trans (S6.mono L5.out.size))
    clear hw6 S6 X3 X4 L3 L4 L5 CM CP CI
    generalize w5.heap.size = gi at K6 ⊢
    go_cut [64] (fun v wx => v = .bool false ∧ Below w6.heap.size w6 wx)
    case first =>
      have hemp := ext_nonempty w6
      have LD1 : Hid (∀ w', (∃ s : Ext w6, w' = s.at_) → ∀ j u, x[j]? = some u → w'.cell? ((⟨g1, 0, none⟩ : Addr).add j) = some u) := Lib.hid fun w' ⟨s, hw⟩ j u hu => by
        rw [hw, addr_row _ rfl, Nat.zero_add]
        exact (XC.out.below (L6.out.trans (s.below.mono L6.out.size))).cell j u hu
      have LD2 : Hid (∀ w', (∃ s : Ext w6, w' = s.at_) → ∀ j u, y[j]? = some u → w'.cell? ((⟨g2, 0, none⟩ : Addr).add j) = some u) := Lib.hid fun w' ⟨s, hw⟩ j u hu => by
        rw [hw, addr_row _ rfl, Nat.zero_add]
        exact (YC.out.below (L6.out.trans (s.below.mono L6.out.size))).cell j u hu
      have CN2 : Hid (∀ s : Ext w6, Calls Tryz.prog 21 #[.agg x.toArray] s.at_ fun e w' => e = .returned (.bool mc) ∧ Below s.at_.heap.size s.at_ w') := Lib.hid fun s => CN.out _ (L6.out.trans (s.below.mono L6.out.size))
      have CE2 : Hid (∀ s : Ext w6, Calls Tryz.prog 22 #[.agg x.toArray, .agg y.toArray] s.at_ fun e w' => e = .returned (.bool ev) ∧ Below s.at_.heap.size s.at_ w') := Lib.hid fun s => CE.out _ (L6.out.trans (s.below.mono L6.out.size))
      have CF2 : Hid (∀ s : Ext w6, Calls Tryz.prog 23 #[.agg x.toArray, .agg y.toArray] s.at_ fun e w' => e = .returned (.bool ev) ∧ Below s.at_.heap.size s.at_ w') := Lib.hid fun s => CF.out _ (L6.out.trans (s.below.mono L6.out.size))
      have hev : (ev != ev) = false := bne_self_eq_false ev
      clear CN CE CF CX CY CL CK XC YC HMC HAB HJV
      cases mc
      all_goals
        refine wp_region_ext (by kernel_rfl) (by kernel_rfl) ?_
        repeat (first
          | (refine wpQuiet_loadS (by rfl) 30 (.tmp 4) rfl ⟨g1, 0, none⟩ rfl x Tryz.isAgg30 IX.out LD1.out ?_)
          | (refine wpQuiet_loadS (by rfl) 30 (.tmp 5) rfl ⟨g2, 0, none⟩ rfl y Tryz.isAgg30 IY.out LD2.out ?_)
          | quiet_step ((first | (go_at_call 21; exact Ext.call (CN2.out _)) | (go_at_call 22; exact Ext.call (CE2.out _)) | (go_at_call 23; exact Ext.call (CF2.out _))))
          | go_big_quiet_step ((first | (go_at_call 21; exact Ext.call (CN2.out _)) | (go_at_call 22; exact Ext.call (CE2.out _)) | (go_at_call 23; exact Ext.call (CF2.out _)))))
        refine wpQuiet_nil ?_
        rintro _ ⟨s9, rfl⟩
        go_wp2
        go_meet
        exact ⟨by first | rfl | simp, s9.below⟩
    case rest =>
      obtain ⟨rfl, hb8⟩ := hcut
      have L8 := Lib.hid (L6.out.trans (hb8.mono L6.out.size))
      have V8 := Lib.hid (LC.out.trans (L8.out.mono LC.out.size))
      have K8 := Lib.hid (K6.out.below hb8)
      clear hb8 L6 K6 CN CE CF IY YC F2
      obtain ⟨oo, cd, hgo⟩ : ∃ oo cd, getO ki sb.data.toList = (oo, cd) := ⟨_, _, rfl⟩
      obtain ⟨ff, _, _, _⟩ := getO_fit hgo
      have cG := fun w hw hv => (objGet_any w ki sb _ rfl (by have := SZ.out; omega) hw hv).mono fun e w' h => getO_has hgo h
      have cH := fun w hw hv => (rgetO_any w ki sb _ rfl (by have := SZ.out; omega) hw hv).mono fun e w' h => getO_has hgo h
      have CG := Lib.hid cG
      have CH := Lib.hid cH
      have FF := Lib.hid ff
      have hcd : (cd == cd) = true := beq_self_eq_true cd
      clear cG cH ff hgo SZ
      cases mc
      · go_upto_region 14 with fail
        clear CX CY CL CK HMC HAB HJV XC IX Z0 F1 K8 L8
        as_aux_lemma =>
          go_upto_region 15 with (first
            | (go_at_call 24; refine (CG.out _ (HG.out.below V8.out) (HE.out.below V8.out)).mono ?_; rintro e wg ⟨zg, rfl, hr, hb⟩; have Rg := Lib.hid hr; have Lg := Lib.hid (V8.out.trans (hb.mono V8.out.size)); clear hr hb)
            | (refine wpl_storeS rfl 30 (.tmp 17) _ rfl wg.heap.size zg rfl rfl 30 zeroO (Blk.new wg _ _) Rg.out.info (by rw [Rg.out.len]; rfl) Rg.out.one ?_))
          generalize hwh : World.setRow _ _ _ = wh
          have Sh : Below wg.heap.size wg wh := by rw [← hwh]; exact (laidS wg 30 zeroO _).1
          have Kh : Hid (Blk wh wg.heap.size 30 zg) := Lib.hid (by rw [← hwh]; exact (laidS wg 30 zeroO _).2)
          have Rh := Lib.hid (Rg.out.below Sh)
          have Lh := Lib.hid (Lg.out.trans (Sh.mono Lg.out.size))
          clear hwh Sh Lg Rg CG
          generalize wg.heap.size = gg at Kh ⊢
          go_upto_region 16 with (first
            | (go_at_call 30; refine (CH.out _ (HG.out.below Lh.out) (HE.out.below Lh.out)).mono ?_; rintro e wi ⟨zi, rfl, hr, hb⟩; have Ri := Lib.hid hr; have Pi := Lib.hid (Rh.out.below hb); have Ki := Lib.hid (Kh.out.below hb); have Li := Lib.hid (Lh.out.trans (hb.mono Lh.out.size)); clear hr hb)
            | (refine wpl_storeS rfl 30 (.tmp 19) _ rfl wi.heap.size zi rfl rfl 30 zeroO (Blk.new wi _ _) Ri.out.info (by rw [Ri.out.len]; rfl) Ri.out.one ?_))
          generalize hwj : World.setRow _ _ _ = wj
          have Sj : Below wi.heap.size wi wj := by rw [← hwj]; exact (laidS wi 30 zeroO _).1
          have Mj : Hid (Blk wj wi.heap.size 30 zi) := Lib.hid (by rw [← hwj]; exact (laidS wi 30 zeroO _).2)
          have Kj := Lib.hid (Ki.out.below Sj)
          have Rj := Lib.hid (Ri.out.below Sj)
          have Pj := Lib.hid (Pi.out.below Sj)
          have Lj := Lib.hid (Li.out.trans (Sj.mono Li.out.size))
          clear hwj Sj Ri Pi Ki Li Kh Rh Lh CH
          generalize wi.heap.size = gj at Mj ⊢
          have i1 := Lib.hid Pj.out.info
          have i2 := Lib.hid Rj.out.info
          obtain ⟨Aa, qa, ka, Ba, ra, da, ea, ata, ha1, ha2⟩ := Pj.out.at FF.out
          obtain ⟨Ab, qb, kb, Bb, rb, db, eb, atb, hb1, hb2⟩ := Rj.out.at FF.out
          have cQ := reqO_any wj oo oo Aa qa ka Ba ra da Ab qb kb Bb rb db ata atb (by omega) (by omega) (by omega) (by omega)
          rw [← ea, ← eb, eqO_self] at cQ
          have CQ := Lib.hid cQ
          clear cQ ea eb ata atb ha1 ha2 hb1 hb2 Rj Pj FF
          go_wp2_with (first
            | (refine wpl_guard (by rfl) ?_; refine wpl_loadS rfl 30 (.tmp 17) rfl ⟨gg, 0, none⟩ rfl zg Tryz.isAgg30 i1.out (fun j u hu => by rw [addr_row _ rfl, Nat.zero_add]; exact Kj.out.cell j u hu) ?_)
            | (refine wpl_guard (by rfl) ?_; refine wpl_loadS rfl 30 (.tmp 19) rfl ⟨gj, 0, none⟩ rfl zi Tryz.isAgg30 i2.out (fun j u hu => by rw [addr_row _ rfl, Nat.zero_add]; exact Mj.out.cell j u hu) ?_)
            | (go_at_call 23; refine CQ.out.mono ?_; rintro e wk ⟨rfl, hb⟩; have Lk := Lib.hid (Lj.out.trans (hb.mono Lj.out.size)); clear hb))
          go_ret
          exact ⟨rfl, Lk.out⟩
      · have hm : mayO c1 = true := HMC.out.symm
        have hab : ab = ⟨(putO c1).toArray⟩ := HAB.out
        have hjv : jv = Bs (sha256 (ofL c1.kd (putO c1))) := HJV.out
        have cX := CX.out hm
        have cY := CY.out hm
        have cK := CK.out hm
        rw [← hab] at cX
        rw [← hjv] at cY
        obtain ⟨o3, hg3, he3, hn3, hb3, h643, hnt3, _, _⟩ := getO_put c1 hm F1.out.bits F1.out.names F1.out.blob F1.out.note
        have haz : ab.size ≤ 2000 := by rw [hab, ba_size]; exact putO_size c1 F1.out.bits hm
        have hal : putO c1 = ab.data.toList := by rw [hab]
        have F3 : Hid (FitO o3) := Lib.hid ⟨hn3, hb3, h643, hnt3⟩
        have cV := fun w hw hv => (objGet_any w c1.kd ab (putO c1) hal (by omega) hw hv).mono fun e w' h => getO_has hg3 h
        have CV := Lib.hid cV
        have C2 := Lib.hid cX
        have C3 := Lib.hid cY
        have C4 := Lib.hid cK
        have E3 := Lib.hid he3
        have X8 := Lib.hid (XC.out.below L8.out)
        have y0 := X8.out.cell 0 _ Z0.out
        have NEJ : Hid ((∀ w, (binOp .neq 24 (.agg jv.toArray) (.agg jv.toArray)).run Tryz.prog w = .ok (.bool false) w) ∧ (∀ op p q w, (eqGuard op 24 p q (.agg jv.toArray) (.agg jv.toArray)).run Tryz.prog w = .ok () w)) := Lib.hid (by
          have e : jv = encI ⟨sha256 (ofL c1.kd (putO c1)), sha256_length _⟩ := hjv
          rw [e]
          exact ⟨fun w => by have := neqAtI.1 (⟨sha256 (ofL c1.kd (putO c1)), sha256_length _⟩ : Idt) ⟨sha256 (ofL c1.kd (putO c1)), sha256_length _⟩ w; simpa using this, fun op p q w => neqAtI.2 op p q _ _ w⟩)
        clear cX cY cK cV hm hab hjv hg3 he3 hn3 hb3 h643 hnt3 haz hal CX CY CK HMC HAB HJV XC Z0
        go_upto_region 12 with (first
          | (go_at_call 24; refine (CV.out _ (HG.out.below V8.out) (HE.out.below V8.out)).mono ?_; rintro e wp ⟨z3, rfl, hr, hb⟩; have Rp := Lib.hid hr; have Lp := Lib.hid hb; clear hr hb)
          | (refine wpl_storeS rfl 30 (.tmp 15) _ rfl wp.heap.size z3 rfl rfl 30 zeroO (Blk.new wp _ _) Rp.out.info (by rw [Rp.out.len]; rfl) Rp.out.one ?_))
        generalize hwq : World.setRow _ _ _ = wq
        have Sq : Below wp.heap.size wp wq := by rw [← hwq]; exact (laidS wp 30 zeroO _).1
        have Kq : Hid (Blk wq wp.heap.size 30 z3) := Lib.hid (by rw [← hwq]; exact (laidS wp 30 zeroO _).2)
        have Rq := Lib.hid (Rp.out.below Sq)
        have Lq := Lib.hid (Lp.out.trans (Sq.mono Lp.out.size))
        clear hwq Sq Lp Rp CV y0
        generalize wp.heap.size = gq at Kq ⊢
        have TQ := Lib.hid (fun (w : World) (hw : Below wq.heap.size wq w) => L8.out.trans ((Lq.out.trans (hw.mono Lq.out.size)).mono L8.out.size))
        have XW : Hid (∀ w, Below wq.heap.size wq w → ∀ j u, x[j]? = some u → w.cell? ((⟨g1, 0, none⟩ : Addr).add j) = some u) := Lib.hid fun w hw j u hu => by rw [addr_row _ rfl, Nat.zero_add]; exact (X8.out.below (Lq.out.trans (hw.mono Lq.out.size))).cell j u hu
        have JW : Hid (∀ w, Below wq.heap.size wq w → ∀ j u, jv[j]? = some u → w.cell? ((⟨gi, 0, none⟩ : Addr).add j) = some u) := Lib.hid fun w hw j u hu => by rw [addr_row _ rfl, Nat.zero_add]; exact (K8.out.below (Lq.out.trans (hw.mono Lq.out.size))).cell j u hu
        have ZW : Hid (∀ w, Below wq.heap.size wq w → ∀ j u, z3[j]? = some u → w.cell? ((⟨gq, 0, none⟩ : Addr).add j) = some u) := Lib.hid fun w hw j u hu => by rw [addr_row _ rfl, Nat.zero_add]; exact (Kq.out.below hw).cell j u hu
        have IZ := Lib.hid Rq.out.info
        obtain ⟨ll, hll⟩ : ∃ ll, ll = linksO c1 := ⟨_, rfl⟩
        have cl2 := CL.out
        have c4' := C4.out
        have ll2 := LL.out
        unfold LinksPost at cl2 c4'
        rw [← hll] at cl2 c4' ll2
        clear CL C4
        have CL := Lib.hid cl2
        have C4 := Lib.hid c4'
        have CQ3 : Hid (∀ w, Below wq.heap.size wq w → Calls Tryz.prog 22 #[.agg z3.toArray, .agg x.toArray] w fun e w' => e = .returned (.bool true) ∧ Below w.heap.size w w') := Lib.hid fun w hw => by
          have := CQ.out o3 F3.out w (TQ.out w hw) z3 _ (Rq.out.below hw)
          rw [E3.out] at this
          exact this
        have CI2 : Hid (∀ (w : World) (A : Option Addr) (c : Nat) (B : Option Addr) (d : Nat), Src w 32 A ll.length (rowI ll) → Src w 32 B ll.length (rowI ll) → Calls Tryz.prog 27 #[.slice A ll.length c, .slice B ll.length d] w fun e w' => e = .returned (.bool true) ∧ Below w.heap.size w w') := Lib.hid fun w A c B d ha hb => by
          have := ieq_any w A B ll.length ll.length c d ll ll ha hb (by omega) (by omega)
          rw [decide_eq_true rfl] at this
          exact this.mono fun e w' ⟨he, q, hw⟩ => ⟨he, by rw [hw]; exact below_drewN' (Below.refl _ _) q⟩
        have hn1 : (ab.toList != ab.toList) = false := bne_self_eq_false _
        have hn2 : (ab.toList == ab.toList) = true := beq_self_eq_true _
        have ne : ∀ w, (binOp .neq 24 (.agg jv.toArray) (.agg jv.toArray)).run Tryz.prog w = .ok (.bool false) w := NEJ.out.1
        have gu : ∀ op p q w, (eqGuard op 24 p q (.agg jv.toArray) (.agg jv.toArray)).run Tryz.prog w = .ok () w := NEJ.out.2
        clear cl2 c4' ll2 hll LL CQ F3 E3 X8 K8 Kq Rq
        go_cut [100] (fun v wx => v = .bool false ∧ Below wq.heap.size wq wx)
        case first =>
          refine wp_region_any (by kernel_rfl) ?_
          change wpAny _ _ _ _ _ _ _ (World.drew _)
          have B0 : Hid (Below wq.heap.size wq (World.drew wq)) := Lib.hid (Below.refl _ _).drew
          generalize World.drew wq = v0 at B0 ⊢
          refine wpAny_of_held (S := fun w' => Below wq.heap.size wq w') _ _ _ _ ?_
          refine wpAnyH_take (i := 0) rfl (by kernel_rfl) (by kernel_rfl) (by kernel_rfl) (fun _ _ _ h => h) (yi_val (by rfl) (.string ab) (fun w => by first | rfl | (simp [execOp, go_sem, *]; done) | (unfold execOp; go_simp; done) | (unfold execOp; simp; rfl))) B0.out ?_
          go_simp
          refine wpAnyH_take (i := 1) rfl (by kernel_rfl) (by kernel_rfl) (by kernel_rfl) (fun _ _ _ h => h) (yi_loadS (by rfl) 30 (.tmp 4) rfl ⟨g1, 0, none⟩ rfl x Tryz.isAgg30 IX.out (fun w hw => XW.out w hw)) B0.out ?_
          go_simp
          refine wpAnyH_ready (rs := [2]) (by kernel_rfl) (by simp) ?_
          refine AllReadyH.cons rfl (fun K hK => ?_) AllReadyH.nil
          refine step_callH (by rfl) 25 #[.agg x.toArray] (by first | rfl | (simp [execOp, go_sem]; done) | (unfold execOp; go_simp; done) | (unfold execOp; simp; rfl)) (fun v w' => v = .string ab ∧ Below v0.heap.size v0 w') ((C2.out _ (TQ.out _ B0.out)).mono fun e w' ⟨he, hw⟩ => ⟨_, he, rfl, hw⟩) ?_
          rintro _ v1 ⟨rfl, hb⟩
          have B1 := Lib.hid (B0.out.trans (hb.mono B0.out.size))
          clear hb
          refine hK.out _ _ (B1.out) (fun _ => ?_)
          clear hK K
          go_simp
          refine wpAnyH_take (i := 3) rfl (by kernel_rfl) (by kernel_rfl) (by kernel_rfl) (fun _ _ _ h => h) (yi_val (by rfl) (.bool false) (fun w => by first | rfl | (simp [execOp, go_sem, *]; done) | (unfold execOp; go_simp; done) | (unfold execOp; simp; rfl))) B1.out ?_
          go_simp
          refine wpAnyH_take (i := 4) rfl (by kernel_rfl) (by kernel_rfl) (by kernel_rfl) (fun _ _ _ h => h) (yi_val (by rfl) (.bool false) (fun w => by first | rfl | (simp [execOp, go_sem, *]; done) | (unfold execOp; go_simp; done) | (unfold execOp; simp; rfl))) B1.out ?_
          go_simp
          refine wpAnyH_take (i := 5) rfl (by kernel_rfl) (by kernel_rfl) (by kernel_rfl) (fun _ _ _ h => h) (yi_loadS (by rfl) 24 (.tmp 13) rfl ⟨gi, 0, none⟩ rfl jv Tryz.isAgg24 (by rw [Tryz.sizeId, JL.out]) (fun w hw => JW.out w hw)) B1.out ?_
          go_simp
          refine wpAnyH_take (i := 6) rfl (by kernel_rfl) (by kernel_rfl) (by kernel_rfl) (fun _ _ _ h => h) (yi_loadS (by rfl) 30 (.tmp 4) rfl ⟨g1, 0, none⟩ rfl x Tryz.isAgg30 IX.out (fun w hw => XW.out w hw)) B1.out ?_
          go_simp
          refine wpAnyH_ready (rs := [7]) (by kernel_rfl) (by simp) ?_
          refine AllReadyH.cons rfl (fun K hK => ?_) AllReadyH.nil
          refine step_callH (by rfl) 26 #[.agg x.toArray] (by first | rfl | (simp [execOp, go_sem]; done) | (unfold execOp; go_simp; done) | (unfold execOp; simp; rfl)) (fun v w' => v = .agg jv.toArray ∧ Below v1.heap.size v1 w') ((C3.out _ (TQ.out _ B1.out)).mono fun e w' ⟨he, hw⟩ => ⟨_, he, rfl, hw⟩) ?_
          rintro _ v2 ⟨rfl, hb⟩
          have B2 := Lib.hid (B1.out.trans (hb.mono B1.out.size))
          clear hb
          refine hK.out _ _ (B2.out) (fun _ => ?_)
          clear hK K
          go_simp
          refine wpAnyH_take (i := 8) rfl (by kernel_rfl) (by kernel_rfl) (by kernel_rfl) (fun _ _ _ h => h) (yi_val (by rfl) (.bool false) (fun w => by first | rfl | (simp [execOp, go_sem, *]; done) | (unfold execOp; go_simp; done) | (unfold execOp; simp; rfl))) B2.out ?_
          go_simp
          refine wpAnyH_take (i := 9) rfl (by kernel_rfl) (by kernel_rfl) (by kernel_rfl) (fun _ _ _ h => h) (yi_val (by rfl) (.bool false) (fun w => by first | rfl | (simp [execOp, go_sem, *]; done) | (unfold execOp; go_simp; done) | (unfold execOp; simp; rfl))) B2.out ?_
          go_simp
          refine wpAnyH_take (i := 10) rfl (by kernel_rfl) (by kernel_rfl) (by kernel_rfl) (fun _ _ _ h => h) (yi_val (by rfl) (.bool false) (fun w => by first | rfl | (simp [execOp, go_sem, *]; done) | (unfold execOp; go_simp; done) | (unfold execOp; simp; rfl))) B2.out ?_
          go_simp
          refine wpAnyH_take (i := 11) rfl (by kernel_rfl) (by kernel_rfl) (by kernel_rfl) (fun _ _ _ h => h) (yi_val (by rfl) (.int .i64 0) (fun w => by first | rfl | (simp [execOp, go_sem, *]; done) | (unfold execOp; go_simp; done) | (unfold execOp; simp; rfl))) B2.out ?_
          go_simp
          refine wpAnyH_take (i := 12) rfl (by kernel_rfl) (by kernel_rfl) (by kernel_rfl) (fun _ _ _ h => h) (yi_val (by rfl) (.bool false) (fun w => by first | rfl | (simp [execOp, go_sem, *]; done) | (unfold execOp; go_simp; done) | (unfold execOp; simp; rfl))) B2.out ?_
          go_simp
          refine wpAnyH_take (i := 13) rfl (by kernel_rfl) (by kernel_rfl) (by kernel_rfl) (fun _ _ _ h => h) (yi_val (by rfl) (.bool false) (fun w => by first | rfl | (simp [execOp, go_sem, *]; done) | (unfold execOp; go_simp; done) | (unfold execOp; simp; rfl))) B2.out ?_
          go_simp
          refine wpAnyH_take (i := 14) rfl (by kernel_rfl) (by kernel_rfl) (by kernel_rfl) (fun _ _ _ h => h) (yi_val (by rfl) (.bool false) (fun w => by first | rfl | (simp [execOp, go_sem, *]; done) | (unfold execOp; go_simp; done) | (unfold execOp; simp; rfl))) B2.out ?_
          go_simp
          refine wpAnyH_take (i := 15) rfl (by kernel_rfl) (by kernel_rfl) (by kernel_rfl) (fun _ _ _ h => h) (yi_loadS (by rfl) 30 (.tmp 15) rfl ⟨gq, 0, none⟩ rfl z3 Tryz.isAgg30 IZ.out (fun w hw => ZW.out w hw)) B2.out ?_
          go_simp
          refine wpAnyH_take (i := 16) rfl (by kernel_rfl) (by kernel_rfl) (by kernel_rfl) (fun _ _ _ h => h) (yi_loadS (by rfl) 30 (.tmp 4) rfl ⟨g1, 0, none⟩ rfl x Tryz.isAgg30 IX.out (fun w hw => XW.out w hw)) B2.out ?_
          go_simp
          refine wpAnyH_ready (rs := [17]) (by kernel_rfl) (by simp) ?_
          refine AllReadyH.cons rfl (fun K hK => ?_) AllReadyH.nil
          refine step_callH (by rfl) 22 #[.agg z3.toArray, .agg x.toArray] (by first | rfl | (simp [execOp, go_sem]; done) | (unfold execOp; go_simp; done) | (unfold execOp; simp; rfl)) (fun v w' => v = .bool true ∧ Below v2.heap.size v2 w') ((CQ3.out _ B2.out).mono fun e w' ⟨he, hw⟩ => ⟨_, he, rfl, hw⟩) ?_
          rintro _ v3 ⟨rfl, hb⟩
          have B3 := Lib.hid (B2.out.trans (hb.mono B2.out.size))
          clear hb
          refine hK.out _ _ (B3.out) (fun _ => ?_)
          clear hK K
          go_simp
          refine wpAnyH_take (i := 18) rfl (by kernel_rfl) (by kernel_rfl) (by kernel_rfl) (fun _ _ _ h => h) (yi_val (by rfl) (.bool false) (fun w => by first | rfl | (simp [execOp, go_sem, *]; done) | (unfold execOp; go_simp; done) | (unfold execOp; simp; rfl))) B3.out ?_
          go_simp
          refine wpAnyH_take (i := 19) rfl (by kernel_rfl) (by kernel_rfl) (by kernel_rfl) (fun _ _ _ h => h) (yi_val (by rfl) (.bool false) (fun w => by first | rfl | (simp [execOp, go_sem, *]; done) | (unfold execOp; go_simp; done) | (unfold execOp; simp; rfl))) B3.out ?_
          go_simp
          refine wpAnyH_take (i := 20) rfl (by kernel_rfl) (by kernel_rfl) (by kernel_rfl) (fun _ _ _ h => h) (yi_val (by rfl) (.bool false) (fun w => by first | rfl | (simp [execOp, go_sem, *]; done) | (unfold execOp; go_simp; done) | (unfold execOp; simp; rfl))) B3.out ?_
          go_simp
          refine wpAnyH_take (i := 21) rfl (by kernel_rfl) (by kernel_rfl) (by kernel_rfl) (fun _ _ _ h => h) (yi_loadS (by rfl) 30 (.tmp 4) rfl ⟨g1, 0, none⟩ rfl x Tryz.isAgg30 IX.out (fun w hw => XW.out w hw)) B3.out ?_
          go_simp
          refine wpAnyH_take (i := 23) rfl (by kernel_rfl) (by kernel_rfl) (by kernel_rfl) (fun _ _ _ h => h) (yi_loadS (by rfl) 30 (.tmp 4) rfl ⟨g1, 0, none⟩ rfl x Tryz.isAgg30 IX.out (fun w hw => XW.out w hw)) B3.out ?_
          go_simp
          refine wpAnyH_ready (rs := [22]) (by kernel_rfl) (by simp) ?_
          refine AllReadyH.cons rfl (fun K hK => ?_) AllReadyH.nil
          refine step_callH (by rfl) 28 #[.agg x.toArray] (by first | rfl | (simp [execOp, go_sem]; done) | (unfold execOp; go_simp; done) | (unfold execOp; simp; rfl)) (fun v w' => ∃ A c, v = .slice A ll.length c ∧ RowQ w' v3.heap.size 24 32 (.slice A ll.length c) ll.length (rowI ll) ∧ Below v3.heap.size v3 w') ((CL.out _ (TQ.out _ B3.out)).mono fun e w' ⟨A, c, he, hr, hw⟩ => ⟨_, he, A, c, rfl, hr, hw⟩) ?_
          rintro _ v4 ⟨Al, cl1, rfl, hr, hb⟩
          have RA := Lib.hid hr
          have B4 := Lib.hid (B3.out.trans (hb.mono B3.out.size))
          clear hb hr
          refine hK.out _ _ (B4.out) (fun _ => ?_)
          clear hK K
          go_simp
          refine wpAnyH_ready (rs := [24]) (by kernel_rfl) (by simp) ?_
          refine AllReadyH.cons rfl (fun K hK => ?_) AllReadyH.nil
          refine step_callH (by rfl) 29 #[.agg x.toArray] (by first | rfl | (simp [execOp, go_sem]; done) | (unfold execOp; go_simp; done) | (unfold execOp; simp; rfl)) (fun v w' => ∃ A c, v = .slice A ll.length c ∧ RowQ w' v4.heap.size 24 32 (.slice A ll.length c) ll.length (rowI ll) ∧ Below v4.heap.size v4 w') ((C4.out _ (TQ.out _ B4.out)).mono fun e w' ⟨A, c, he, hr, hw⟩ => ⟨_, he, A, c, rfl, hr, hw⟩) ?_
          rintro _ v5 ⟨Bl, cl2, rfl, hr, hb⟩
          have RB := Lib.hid hr
          have B5 := Lib.hid (B4.out.trans (hb.mono B4.out.size))
          have RA2 := Lib.hid (RA.out.below hb)
          clear hb hr
          refine hK.out _ _ (B5.out) (fun _ => ?_)
          clear hK K
          go_simp
          refine wpAnyH_ready (rs := [25]) (by kernel_rfl) (by simp) ?_
          refine AllReadyH.cons rfl (fun K hK => ?_) AllReadyH.nil
          refine step_callH (by rfl) 27 #[.slice Al ll.length cl1, .slice Bl ll.length cl2] (by first | rfl | (simp [execOp, go_sem]; done) | (unfold execOp; go_simp; done) | (unfold execOp; simp; rfl)) (fun v w' => v = .bool true ∧ Below v5.heap.size v5 w') ((CI2.out v5 Al cl1 Bl cl2 (RA2.out.src (rowI_one _)) (RB.out.src (rowI_one _))).mono fun e w' ⟨he, hw⟩ => ⟨_, he, rfl, hw⟩) ?_
          rintro _ v6 ⟨rfl, hb⟩
          have B6 := Lib.hid (B5.out.trans (hb.mono B5.out.size))
          clear hb
          refine hK.out _ _ (B6.out) (fun _ => ?_)
          clear hK K
          go_simp
          refine wpAnyH_take (i := 26) rfl (by kernel_rfl) (by kernel_rfl) (by kernel_rfl) (fun _ _ _ h => h) (yi_val (by rfl) (.bool false) (fun w => by first | rfl | (simp [execOp, go_sem, *]; done) | (unfold execOp; go_simp; done) | (unfold execOp; simp; rfl))) B6.out ?_
          go_simp
          refine wpAnyH_take (i := 27) rfl (by kernel_rfl) (by kernel_rfl) (by kernel_rfl) (fun _ _ _ h => h) (yi_val (by rfl) (.bool false) (fun w => by first | rfl | (simp [execOp, go_sem, *]; done) | (unfold execOp; go_simp; done) | (unfold execOp; simp; rfl))) B6.out ?_
          go_simp
          refine wpAnyH_done (by kernel_rfl) ?_ _
          go_wp2
          go_meet
          exact ⟨rfl, B6.out⟩
        case rest =>
          obtain ⟨rfl, hbq⟩ := hcut
          have V9 := Lib.hid (V8.out.trans ((Lq.out.trans (hbq.mono Lq.out.size)).mono V8.out.size))
          clear V8
          have V8 := V9
          clear hbq XW JW ZW IZ C2 C3 C4 CL CQ3 CI2 NEJ TQ Lq ne gu hn1 hn2 IX F1
          go_upto_region 14 with fail
          as_aux_lemma =>
            go_upto_region 15 with (first
              | (go_at_call 24; refine (CG.out _ (HG.out.below V8.out) (HE.out.below V8.out)).mono ?_; rintro e wg ⟨zg, rfl, hr, hb⟩; have Rg := Lib.hid hr; have Lg := Lib.hid (V8.out.trans (hb.mono V8.out.size)); clear hr hb)
              | (refine wpl_storeS rfl 30 (.tmp 17) _ rfl wg.heap.size zg rfl rfl 30 zeroO (Blk.new wg _ _) Rg.out.info (by rw [Rg.out.len]; rfl) Rg.out.one ?_))
            generalize hwh : World.setRow _ _ _ = wh
            have Sh : Below wg.heap.size wg wh := by rw [← hwh]; exact (laidS wg 30 zeroO _).1
            have Kh : Hid (Blk wh wg.heap.size 30 zg) := Lib.hid (by rw [← hwh]; exact (laidS wg 30 zeroO _).2)
            have Rh := Lib.hid (Rg.out.below Sh)
            have Lh := Lib.hid (Lg.out.trans (Sh.mono Lg.out.size))
            clear hwh Sh Lg Rg CG
            generalize wg.heap.size = gg at Kh ⊢
            go_upto_region 16 with (first
              | (go_at_call 30; refine (CH.out _ (HG.out.below Lh.out) (HE.out.below Lh.out)).mono ?_; rintro e wi ⟨zi, rfl, hr, hb⟩; have Ri := Lib.hid hr; have Pi := Lib.hid (Rh.out.below hb); have Ki := Lib.hid (Kh.out.below hb); have Li := Lib.hid (Lh.out.trans (hb.mono Lh.out.size)); clear hr hb)
              | (refine wpl_storeS rfl 30 (.tmp 19) _ rfl wi.heap.size zi rfl rfl 30 zeroO (Blk.new wi _ _) Ri.out.info (by rw [Ri.out.len]; rfl) Ri.out.one ?_))
            generalize hwj : World.setRow _ _ _ = wj
            have Sj : Below wi.heap.size wi wj := by rw [← hwj]; exact (laidS wi 30 zeroO _).1
            have Mj : Hid (Blk wj wi.heap.size 30 zi) := Lib.hid (by rw [← hwj]; exact (laidS wi 30 zeroO _).2)
            have Kj := Lib.hid (Ki.out.below Sj)
            have Rj := Lib.hid (Ri.out.below Sj)
            have Pj := Lib.hid (Pi.out.below Sj)
            have Lj := Lib.hid (Li.out.trans (Sj.mono Li.out.size))
            clear hwj Sj Ri Pi Ki Li Kh Rh Lh CH
            generalize wi.heap.size = gj at Mj ⊢
            have i1 := Lib.hid Pj.out.info
            have i2 := Lib.hid Rj.out.info
            obtain ⟨Aa, qa, ka, Ba, ra, da, ea, ata, ha1, ha2⟩ := Pj.out.at FF.out
            obtain ⟨Ab, qb, kb, Bb, rb, db, eb, atb, hb1, hb2⟩ := Rj.out.at FF.out
            have cQ := reqO_any wj oo oo Aa qa ka Ba ra da Ab qb kb Bb rb db ata atb (by omega) (by omega) (by omega) (by omega)
            rw [← ea, ← eb, eqO_self] at cQ
            have CQ := Lib.hid cQ
            clear cQ ea eb ata atb ha1 ha2 hb1 hb2 Rj Pj FF
            go_wp2_with (first
              | (refine wpl_guard (by rfl) ?_; refine wpl_loadS rfl 30 (.tmp 17) rfl ⟨gg, 0, none⟩ rfl zg Tryz.isAgg30 i1.out (fun j u hu => by rw [addr_row _ rfl, Nat.zero_add]; exact Kj.out.cell j u hu) ?_)
              | (refine wpl_guard (by rfl) ?_; refine wpl_loadS rfl 30 (.tmp 19) rfl ⟨gj, 0, none⟩ rfl zi Tryz.isAgg30 i2.out (fun j u hu => by rw [addr_row _ rfl, Nat.zero_add]; exact Mj.out.cell j u hu) ?_)
              | (go_at_call 23; refine CQ.out.mono ?_; rintro e wk ⟨rfl, hb⟩; have Lk := Lib.hid (Lj.out.trans (hb.mono Lj.out.size)); clear hb))
            go_ret
            exact ⟨rfl, Lk.out⟩
end Go.Proofs.YtpbnigpdpkfpaaaGreatDoor
