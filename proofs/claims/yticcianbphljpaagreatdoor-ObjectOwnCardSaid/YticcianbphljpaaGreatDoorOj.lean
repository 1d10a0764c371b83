/- colporteurlaw6.Object: an object cut. (printed by wip/genOj.py) -/
import Derived.Test.YticcianbphljpaaGreatDoorP14x
import Derived.Test.YticcianbphljpaaGreatDoorHl
import Derived.Test.YticcianbphljpaaGreatDoorP17x
import Derived.Test.YticcianbphljpaaGreatDoorP18x
import Derived.Test.YticcianbphljpaaGreatDoorP10x
namespace Go.Proofs.YticcianbphljpaaGreatDoor
open Go.RowKit
theorem run_uptoE (w : World) (A : Option Addr) (m c k : Nat) (hk : k ≤ c) :
    (Instr.sliceAt 22 (.slice A m c) none (some (.int .i64 k)) none).run Tryz.prog w = .ok (.slice A k c) w := by
  simp [Instr.sliceAt, Instr.slice, Instr.sliceBounds, Instr.sliceBound, go_sem]
  exact fun h => absurd h (by omega)
/-- An object, cut. -/
def cutOb (o : Obt) (q q2 : Nat) : Obt := ⟨o.kd, o.blob.take 1010, o.ents.take q, ⟨o.com.tree, o.com.ps.take q2, o.com.wh, o.com.note.take 110⟩⟩
theorem built_allO (k : Int) (s : ByteArray) (A : Option Addr) (n c : Nat) (es : List Ent) (cm : Com) (B : Option Addr) (m d : Nat) :
    Tryz.prog.built 64 [(0, .int .i64 k), (1, .string s), (2, .slice A n c), (3, .agg (comL cm B m d).toArray)] = some (objL ⟨k, s.data.toList, es, cm⟩ A n c B m d).toArray := by
  rw [builtO, fill_one _ _ 0 _ _ 0 [.int .i64 k] rfl (by simp) (by simp [zeroO, objL_len]), fill_one _ _ 1 _ _ 1 [.string s] rfl (by simp) (by simp [zeroO, objL]), fill_one _ _ 2 _ _ 2 [.slice A n c] rfl (by simp) (by simp [zeroO, objL]),
    fill_one _ _ 3 _ _ 3 (comL cm B m d) rfl (by simp [comL_len]) (by simp [zeroO, objL, comL_len]), Instr.fill]
  simp [zeroO, objL, noOb, comL_len]
set_option maxRecDepth 20000 in
set_option maxHeartbeats 12800000 in
theorem objCut_any (W : World) (o : Obt) (A : Option Addr) (n k : Nat) (B : Option Addr) (m d : Nat) (h : ObAt W o A n k B m d) (q q2 : Nat) (hq : q = min n 22) (hq2 : q2 = min m 6) :
    Calls Tryz.prog 35 #[.agg (objL o A n k B m d).toArray] W fun e W' => ∃ A' k' B' d', e = .returned (.agg (objL (cutOb o q q2) A' q k' B' q2 d').toArray) ∧ RowQ W' W.heap.size 27 34 (.slice A' q k') q (entE.row (o.ents.take q)) ∧ RowQ W' W.heap.size 25 32 (.slice B' q2 d') q2 (rowI (o.com.ps.take q2)) ∧ Below W.heap.size W W' := by
  have hmin : min (n : Int) 22 = (q : Int) := by omega
  have hqk : (q : Int) ≤ (k : Int) := by have := h.cap; omega
  have sl1 := fun w => run_uptoE w A n k q (by have := h.cap; omega)
  obtain ⟨us, hus⟩ : ∃ us, us = o.ents.take q := ⟨_, rfl⟩
  have hsq : ∀ w, Below W.heap.size W w → Src w 34 A q (entE.row us) := fun w hw => by rw [hus]; exact entE.src_take (entE.src_below h.row hw) q (by omega)
  obtain ⟨bb, hbb⟩ : ∃ bb : ByteArray, bb = ⟨o.blob.toArray⟩ := ⟨_, rfl⟩
  obtain ⟨tb, htb⟩ : ∃ tb : ByteArray, tb = ⟨(o.blob.take 1010).toArray⟩ := ⟨_, rfl⟩
  have cT : ∀ w, Calls Tryz.prog 17 #[.string bb, .int .i64 1010] w fun e w' => e = .returned (.string tb) ∧ w' = w := fun w => by
    have := text_cut w bb 1010
    have e : bb.data.toList = o.blob := by rw [hbb]
    rw [e, ← htb] at this
    exact this
  obtain ⟨c1, hc1⟩ : ∃ c1 : Com, c1 = ⟨o.com.tree, o.com.ps.take q2, o.com.wh, o.com.note.take 110⟩ := ⟨_, rfl⟩
  have cC := fun w (hw : Below W.heap.size W w) => comCut_any w o.com B m d (h.com.below hw) q2 hq2
  have hps : o.com.ps.take q2 = c1.ps := by rw [hc1]
  rw [← hc1, hps] at cC
  obtain ⟨o2, ho2⟩ : ∃ o2 : Obt, o2 = cutOb o q q2 := ⟨_, rfl⟩
  have bu : ∀ A' c' B' d', Tryz.prog.built 64 [(0, .int .i64 o.kd), (1, .string tb), (2, .slice A' q c'), (3, .agg (comL c1 B' q2 d').toArray)] = some (objL o2 A' q c' B' q2 d').toArray := fun A' c' B' d' => by
    have := built_allO o.kd tb A' q c' us c1 B' q2 d'
    have e : (⟨o.kd, tb.data.toList, us, c1⟩ : Obt) = o2 := by rw [ho2, htb, hus, hc1]; rfl
    rwa [e] at this
  rw [← hus, hps, ← ho2]
  obtain ⟨w0, hw0⟩ : ∃ w0, w0 = (W.alloc (.cells (objL o A n k B m d).toArray 64)).alloc (.cells zeroO.toArray 64) := ⟨_, rfl⟩
  have hz0 : (W.alloc (.cells (objL o A n k B m d).toArray 64)).heap.size = W.heap.size + 1 := hsz _ _
  have l0 : Below W.heap.size W w0 := by rw [hw0]; exact ((Below.refl _ _).alloc (Nat.le_refl _) _).alloc (by rw [hz0]; omega) _
  have x0 : Blk w0 W.heap.size 64 (objL o A n k B m d) := by rw [hw0]; exact (Blk.new W _ _).alloc _
  have y0 : Blk w0 (W.heap.size + 1) 64 zeroO := by rw [hw0, ← hz0]; exact Blk.new _ _ _
  obtain ⟨g, hg⟩ : ∃ g, g = W.heap.size := ⟨_, rfl⟩
  obtain ⟨g2, hg2⟩ : ∃ g2, g2 = W.heap.size + 1 := ⟨_, rfl⟩
  rw [← hg] at x0
  rw [← hg2] at y0
  have OWN : Hid (∀ w, Below W.heap.size W w → True) := Lib.hid fun _ _ => trivial
  have HBB := Lib.hid hbb
  have SQ := Lib.hid hsq
  have CT := Lib.hid cT
  have CC := Lib.hid cC
  have BU := Lib.hid bu
  have X0 := Lib.hid x0
  have Y0 := Lib.hid y0
  have L0 := Lib.hid l0
  have GN : Hid (W.heap.size ≤ g2) := Lib.hid (by omega)
  have NE : Hid (g ≠ g2) := Lib.hid (by omega)
  have Q22 : Hid (q ≤ 22) := Lib.hid (by omega)
  have G2 := Lib.hid hg2
  obtain ⟨cl, hcl⟩ : ∃ cl, cl = objL o A n k B m d := ⟨_, rfl⟩
  have HCL := Lib.hid hcl
  rw [← hcl] at hw0 hz0 ⊢
  clear hus hsq hbb htb cT hc1 cC hps ho2 bu l0 x0 y0 h hq hq2 hcl OWN
  go_enter Tryz.func35, Tryz.ntmps35
  go_upto_region 1 with fail
  change Code.wp _ _ _ _ ((W.alloc (.cells cl.toArray 64)).alloc (.cells zeroO.toArray 64))
  rw [← hw0]
  try rw [hz0]
  try rw [← hg2]
  try rw [← hg]
  clear hw0 hz0 hg hg2
  refine wp_region_any (by kernel_rfl) ?_
  change wpAny _ _ _ _ _ _ _ (World.drew _)
  have XS : Hid (Blk w0.drew g 64 (objL o A n k B m d)) := Lib.hid X0.out.drew
  have YS : Hid (Blk w0.drew g2 64 zeroO) := Lib.hid Y0.out.drew
  have L1 : Hid (Below W.heap.size W w0.drew) := Lib.hid L0.out.drew
  generalize World.drew w0 = v0 at XS YS L1 ⊢
  have OW : Hid (∀ {w : World} {v : Value} {n : Nat} {e : TypeId} {s : Nat} {xs : List Value}, RowQ w v0.heap.size e s v n xs → v.ownBlock ≠ some g2) := Lib.hid fun hr e => by
    have h1 := (hr.lt _ e).1
    have h2 := YS.out.lt
    omega
  clear X0 Y0 L0
  refine wpAny_bare [0, 2, 5, 7, 13] 13 (by rfl) (by kernel_rfl) (fun _ _ _ d _ h => by cases d <;> exact h) ?_
  simp only [bareO, List.filterMap_cons, List.filterMap_nil, List.getElem?_toArray, List.getElem?_cons_succ, List.getElem?_cons_zero]
  repeat (first | quiet_step (fail) | go_big_quiet_step (fail))
  refine wpQuiet_nil ?_
  refine wpAny_of_held (S := fun w' => Blk w' g 64 (objL o A n k B m d)) _ _ _ _ ?_
  refine wpAnyH_take (i := 1) rfl (by kernel_rfl) (by kernel_rfl) (by kernel_rfl) (fun _ _ _ h => h) (yi_cell (by rfl) 3 (.tmp 3) rfl ⟨g, 0, none⟩ rfl (.int .i64 o.kd) Tryz.isAgg3 (fun w hw => (ObBlk.of hw).kd)) XS.out ?_
  go_simp
  refine wpAnyH_take (i := 3) rfl (by kernel_rfl) (by kernel_rfl) (by kernel_rfl) (fun _ _ _ h => h) (yi_cell (by rfl) 9 (.tmp 5) rfl ⟨g, 1, none⟩ rfl (.string bb) Tryz.isAgg9 (fun w hw => by rw [HBB.out]; exact (ObBlk.of hw).blob)) XS.out ?_
  go_simp
  refine wpAnyH_take (i := 6) rfl (by kernel_rfl) (by kernel_rfl) (by kernel_rfl) (fun _ _ _ h => h) (yi_cell (by rfl) 22 (.tmp 8) rfl ⟨g, 2, none⟩ rfl (.slice A n k) Tryz.isAgg22 (fun w hw => (ObBlk.of hw).ents)) XS.out ?_
  go_simp
  refine wpAnyH_take (i := 8) rfl (by kernel_rfl) (by kernel_rfl) (by kernel_rfl) (fun _ _ _ h => h) (yi_cell (by rfl) 22 (.tmp 10) rfl ⟨g, 2, none⟩ rfl (.slice A n k) Tryz.isAgg22 (fun w hw => (ObBlk.of hw).ents)) XS.out ?_
  go_simp
  refine wpAnyH_take (i := 14) rfl (by kernel_rfl) (by kernel_rfl) (by kernel_rfl) (fun _ _ _ h => h) (yi_loadS (by rfl) 34 (.tmp 16) rfl ⟨g, 3, none⟩ rfl (comL o.com B m d) Tryz.isAgg34 (infoC _ _ _ _) (fun w hw j v hv => (ObBlk.of hw).com j v hv)) XS.out ?_
  go_simp
  refine wpAnyH_take (i := 9) rfl (by kernel_rfl) (by kernel_rfl) (by kernel_rfl) (fun _ _ _ h => h) (yi_val (by rfl) (.int .i64 n) (fun w => by first | rfl | (simp [execOp, go_sem]; done) | (unfold execOp; go_simp; done) | (unfold execOp; simp; rfl))) XS.out ?_
  go_simp
  refine wpAnyH_take (i := 10) rfl (by kernel_rfl) (by kernel_rfl) (by kernel_rfl) (fun _ _ _ h => h) (yi_val (by rfl) (.int .i64 q) (fun w => by first | rfl | (simp [execOp, go_sem]; done) | (unfold execOp; go_simp; done) | (unfold execOp; simp; rfl))) XS.out ?_
  go_simp
  refine wpAnyH_take (i := 11) rfl (by kernel_rfl) (by kernel_rfl) (by kernel_rfl) (fun _ _ _ h => h) (yi_val (by rfl) (.slice A q k) (fun w => by first | rfl | (simp [execOp, go_sem]; done) | (unfold execOp; go_simp; done) | (unfold execOp; simp; rfl))) XS.out ?_
  go_simp
  refine wpAnyH_ready (rs := [4]) (by kernel_rfl) (by simp) ?_
  refine AllReadyH.cons rfl (fun K hK => ?_) AllReadyH.nil
  refine step_callH (by rfl) 17 #[.string bb, .int .i64 1010] (by first | rfl | (simp [execOp, go_sem]; done) | (unfold execOp; go_simp; done) | (unfold execOp; simp; rfl)) (fun v w' => v = .string tb ∧ w' = v0) ((CT.out _).mono fun e w' ⟨he, hw⟩ => ⟨_, he, rfl, hw⟩) ?_
  rintro _ w2 ⟨rfl, hw2⟩
  replace hw2 := hw2.symm
  subst hw2
  refine hK.out _ _ (XS.out) (fun _ => ?_)
  clear hK K
  go_simp
  refine wpAnyH_ready (rs := [12]) (by kernel_rfl) (by simp) ?_
  refine AllReadyH.cons rfl (fun K hK => ?_) AllReadyH.nil
  refine step_append_Q rfl (.const (.slice none 0 0)) (.tmp 14) 22 rfl v0.heap.size 27 (.agg zeroE.toArray) 34 56 Tryz.underlying22 (by kernel_rfl) rfl (by decide) (.slice none 0 0) 0 [] rfl (RowQ.nil _ _ _ _) A q k (entE.row us) rfl (SQ.out _ L1.out) (by have := Q22.out; omega) (by have := Q22.out; omega) (Nat.le_refl _) ?_
  intro v3 w3 hr3 hg3 _
  rw [Nat.zero_add, List.nil_append] at hr3
  obtain ⟨A3, c3, rfl, _, _⟩ := hr3.shape
  have R3 := Lib.hid hr3
  have B3 := Lib.hid (grown_nil hg3)
  have X3 := Lib.hid (XS.out.below B3.out)
  have L3 := Lib.hid (L1.out.trans (B3.out.mono L1.out.size))
  have Y3 := Lib.hid (YS.out.below B3.out)
  clear hr3 hg3
  refine hK.out _ _ (X3.out) (fun _ => ?_)
  clear hK K
  go_simp
  refine wpAnyH_ready (rs := [15]) (by kernel_rfl) (by simp) ?_
  refine AllReadyH.cons rfl (fun K hK => ?_) AllReadyH.nil
  refine step_callH (by rfl) 16 #[.agg (comL o.com B m d).toArray] (by first | rfl | (simp [execOp, go_sem]; done) | (unfold execOp; go_simp; done) | (unfold execOp; simp; rfl)) (fun v w' => ∃ B4 d4, v = .agg (comL c1 B4 q2 d4).toArray ∧ RowQ w' v0.heap.size 25 32 (.slice B4 q2 d4) q2 (rowI c1.ps) ∧ Below w3.heap.size w3 w') ((CC.out _ L3.out).mono fun e w' ⟨B, d, he, hr, hb⟩ => ⟨_, he, B, d, rfl, hr.mono B3.out.size, hb⟩) ?_
  rintro _ w4 ⟨B4, d4, rfl, hr, hb⟩
  have R4 := Lib.hid hr
  have Q4 := Lib.hid (R3.out.below hb)
  have X4 := Lib.hid (X3.out.below hb)
  have Y4 := Lib.hid (Y3.out.below hb)
  have L4 := Lib.hid (L3.out.trans (hb.mono L3.out.size))
  clear hr hb
  refine hK.out _ _ (X4.out) (fun _ => ?_)
  clear hK K
  go_simp
  refine wpAnyH_ready (rs := [16]) (by kernel_rfl) (by simp) ?_
  refine AllReadyH.cons rfl (fun K hK => ?_) AllReadyH.nil
  refine step_build (by rfl) 64 [(0, .tmp 4), (1, .tmp 7), (2, .tmp 15), (3, .tmp 18)] rfl (objL o2 A3 q c3 B4 q2 d4).toArray (BU.out A3 c3 B4 d4) ?_
  refine hK.out _ _ (X4.out) (fun _ => ?_)
  clear hK K
  go_simp
  refine wpAnyH_ready (rs := [17]) (by kernel_rfl) (by simp) ?_
  refine AllReadyH.cons rfl (fun K hK => ?_) AllReadyH.nil
  refine step_storeS (by rfl) 64 (.tmp 2) (.tmp 19) rfl g2 (objL o2 A3 q c3 B4 q2 d4) rfl rfl 64 zeroO Y4.out (infoO _ _ _ _ _ _ _) (by rw [objL_len]; rfl) (objL_one _ _ _ _ _ _ _) ?_
  refine hK.out _ _ (X4.out.rowFar NE.out _) (fun _ => ?_)
  clear hK K
  go_simp
  refine wpAnyH_done (by kernel_rfl) ?_ _
  go_wp2
  refine bodyPost_ret (res_rowS1 rfl _ _ g2 64 (objL o2 A3 q c3 B4 q2 d4) _ rfl (Y4.out.row _) Tryz.underlying64 rfl (infoO _ _ _ _ _ _ _)) rfl ?_
  exact ⟨A3, c3, B4, d4, rfl, (Q4.out.rowFar (OW.out Q4.out) _).mono L1.out.size, (R4.out.rowFar (OW.out R4.out) _).mono L1.out.size, below_setRow' L4.out GN.out _⟩
end Go.Proofs.YticcianbphljpaaGreatDoor
