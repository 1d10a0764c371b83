/- ref5.May: may it be an object? -/
import Derived.Test.YticcianbphljpaaGreatDoorP17x
import Derived.Test.YticcianbphljpaaGreatDoorP15x
import Derived.Test.YticcianbphljpaaGreatDoorP20x
import Derived.Test.YticcianbphljpaaGreatDoorP7x
namespace Go.Proofs.YticcianbphljpaaGreatDoor
open Go.RowKit
set_option maxRecDepth 20000 in
set_option maxHeartbeats 16000000 in
theorem rmayO_any (W : World) (o : Obt) (A : Option Addr) (n k : Nat) (B : Option Addr) (m d : Nat) (h : ObAt W o A n k B m d) (hn : n ≤ 1099511627776) (hm : m ≤ 1099511627776) :
    Calls Tryz.prog 36 #[.agg (objL o A n k B m d).toArray] W fun e W' => e = .returned (.bool (mayO o)) ∧ Below W.heap.size W W' := by
  obtain ⟨bb, hbb⟩ : ∃ bb : ByteArray, bb = ⟨o.blob.toArray⟩ := ⟨_, rfl⟩
  obtain ⟨hp1, hp2⟩ := empty_blob o.blob bb hbb
  have hp3 := empty_ents o.ents n h.len
  have hbz : o.blob.length = bb.size := by rw [hbb, ba_size]
  obtain ⟨r, hr⟩ : ∃ r, r = mayO o := ⟨_, rfl⟩
  rw [← hr]
  unfold mayO at hr
  rw [hbz] at hr
  have l0 := (Below.refl W.heap.size W).alloc (Nat.le_refl _) (.cells (objL o A n k B m d).toArray 64)
  have k0 := ObBlk.of (Blk.new W 64 (objL o A n k B m d))
  rw [← hbb] at k0
  obtain ⟨w0, hw0⟩ : ∃ w0, w0 = W.alloc (.cells (objL o A n k B m d).toArray 64) := ⟨_, rfl⟩
  rw [← hw0] at l0 k0
  have cQ : ∀ w, Below W.heap.size W w → Calls Tryz.prog 31 #[.agg (comL o.com B m d).toArray, .agg zeroC.toArray] w fun e w' => e = .returned (.bool (eqC o.com noCom)) ∧ Below w.heap.size w w' := fun w hw => reqC_any w o.com noCom B m d none 0 0 (h.com.below hw) (noComAt w) hm (by omega)
  have cT := fun w (hw : Below W.heap.size W w) => refMayTree_any w A n k o.ents (entE.src_below h.row hw) hn h.names
  have cM := fun w (hw : Below W.heap.size W w) => rmayC_any w o.com B m d (h.com.below hw) hm
  have ic := infoC o.com B m d
  generalize eqC o.com noCom = pc at cQ hr
  generalize decide (o.blob = []) = pb at hp1 hp2 hr
  generalize decide (o.ents = []) = pt at hp3 hr
  generalize mayT o.ents = pm at cT hr
  generalize mayC o.com = pn at cM hr
  obtain ⟨g, hg⟩ : ∃ g, g = W.heap.size := ⟨_, rfl⟩
  rw [← hg] at k0
  have L0 := Lib.hid l0
  have K0 := Lib.hid k0
  have HW : Hid (∀ w, Below w0.heap.size w0 w → Below W.heap.size W w) := Lib.hid fun w hw => l0.trans (hw.mono l0.size)
  have CQ := Lib.hid cQ
  have CT := Lib.hid cT
  have CM := Lib.hid cM
  have IC := Lib.hid ic
  obtain ⟨cs, hcs⟩ : ∃ cs, cs = objL o A n k B m d := ⟨_, rfl⟩
  obtain ⟨cc, hcc⟩ : ∃ cc, cc = comL o.com B m d := ⟨_, rfl⟩
  rw [← hcs] at hw0 ⊢
  rw [← hcc] at CQ CM IC
  have KC : Hid (∀ w, Below w0.heap.size w0 w → ∀ j v, cc[j]? = some v → w.cell? ((⟨g, 3, none⟩ : Addr).add j) = some v) := Lib.hid fun w hw j v hv => (K0.out.below hw).com j v (by rw [← hcc]; exact hv)
  have KK : Hid (∀ w, Below w0.heap.size w0 w → w.cell? ⟨g, 0, none⟩ = some (.int .i64 o.kd) ∧ w.cell? ⟨g, 1, none⟩ = some (.string bb) ∧ w.cell? ⟨g, 2, none⟩ = some (.slice A n k)) := Lib.hid fun w hw => ⟨(K0.out.below hw).kd, (K0.out.below hw).blob, (K0.out.below hw).ents⟩
  obtain ⟨kd, hkd⟩ : ∃ kd, kd = o.kd := ⟨_, rfl⟩
  rw [← hkd] at KK hr
  have HR := Lib.hid hr
  clear h hn hm hbb hbz hr l0 k0 cQ cT cM ic hcs hcc K0 hkd
  go_enter Tryz.func36, Tryz.ntmps36
  go_upto_region 1 with fail
  change Code.wp _ _ _ _ (W.alloc (.cells cs.toArray 64))
  rw [← hw0, ← hg]
  clear hw0 hg
  go_upto_region 2 with (first
    | (refine wpl_loadS rfl 34 (.tmp 4) rfl ⟨g, 3, none⟩ rfl cc Tryz.isAgg34 IC.out (KC.out _ (Below.refl _ _)) ?_)
    | (refine wpl_buildP rfl 34 _ rfl zeroC (by kernel_rfl) ?_)
    | (go_at_call 31; refine (CQ.out _ (HW.out _ (Below.refl _ _))).mono ?_; rintro e w1 ⟨rfl, h1⟩; have L1 : Hid (Below w0.heap.size w0 w1) := Lib.hid h1; clear h1))
  have LW := Lib.hid (HW.out _ L1.out)
  obtain ⟨y0, y1, y2⟩ := KK.out _ L1.out
  clear CQ KK
  by_cases e1 : kd = 1
  · subst e1
    have h1 := HR.out
    rw [if_pos rfl] at h1
    have H1 := Lib.hid h1
    clear HR h1 CT CM KC IC
    as_aux_lemma =>
      by_cases hz : bb.size ≤ 1000
      · have z1 : (bb.size : Int) ≤ 1000 := by omega
        have H2 := Lib.hid (show r = (pt && pc) from by rw [H1.out, decide_eq_true hz, Bool.and_true])
        clear H1 hz
        cases pt <;> cases pc
        all_goals
          have H3 := Lib.hid (show r = _ from H2.out)
          go_wp2
          go_ret
          exact ⟨by rw [H3.out]; rfl, LW.out⟩
      · have z1 : ¬ (bb.size : Int) ≤ 1000 := by omega
        have z2 : decide ((bb.size : Int) ≤ 1000) = false := decide_eq_false z1
        have H2 := Lib.hid (show r = false from by rw [H1.out, decide_eq_false hz, Bool.and_false])
        clear H1 hz
        go_wp2
        go_ret
        exact ⟨by rw [H2.out]; rfl, LW.out⟩
  · by_cases e2 : kd = 2
    · subst e2
      have h1 := HR.out
      rw [if_neg (by omega), if_pos rfl] at h1
      have H1 := Lib.hid h1
      clear HR h1 e1 CM KC IC
      as_aux_lemma =>
        cases pb
        · have H2 := Lib.hid (show r = false from H1.out)
          go_wp2
          go_ret
          exact ⟨by rw [H2.out]; rfl, LW.out⟩
        · have H2 := Lib.hid (show r = (pc && pm) from H1.out)
          cases pm <;> cases pc
          all_goals
            have H3 := Lib.hid (show r = _ from H2.out)
            go_wp2_with (go_at_call 60; refine (CT.out _ LW.out).mono ?_; rintro e w2 ⟨rfl, h2⟩; have B2 := Lib.hid h2; clear h2)
            go_ret
            exact ⟨by rw [H3.out]; rfl, LW.out.trans (B2.out.mono LW.out.size)⟩
    · by_cases e3 : kd = 3
      · subst e3
        have h1 := HR.out
        rw [if_neg (by omega), if_neg (by omega), if_pos rfl] at h1
        have H1 := Lib.hid h1
        clear HR h1 e1 e2 CT
        cases pb
        · as_aux_lemma =>
            have H2 := Lib.hid (show r = false from H1.out)
            go_wp2
            go_ret
            exact ⟨by rw [H2.out]; rfl, LW.out⟩
        · cases pt
          · as_aux_lemma =>
              have H2 := Lib.hid (show r = false from H1.out)
              go_wp2
              go_ret
              exact ⟨by rw [H2.out]; rfl, LW.out⟩
          · as_aux_lemma =>
              have H2 := Lib.hid (show r = pn from H1.out)
              go_wp2_with (first
                | (refine wpl_guard (by rfl) ?_; refine wpl_loadS rfl 34 (.tmp 50) rfl ⟨g, 3, none⟩ rfl cc Tryz.isAgg34 IC.out (KC.out _ L1.out) ?_)
                | (go_at_call 27; refine (CM.out _ LW.out).mono ?_; rintro e w2 ⟨rfl, h2⟩; have B2 := Lib.hid h2; clear h2))
              go_ret
              exact ⟨by rw [H2.out]; rfl, LW.out.trans (B2.out.mono LW.out.size)⟩
      · have f1 : (kd == (1 : Int)) = false := by simpa using e1
        have f2 : (kd == (2 : Int)) = false := by simpa using e2
        have f3 : (kd == (3 : Int)) = false := by simpa using e3
        have H2 : Hid (r = false) := Lib.hid (by rw [HR.out, if_neg e1, if_neg e2, if_neg e3])
        clear e1 e2 e3 CT CM KC IC HR
        as_aux_lemma =>
          go_wp2
          go_ret
          exact ⟨by rw [H2.out]; rfl, LW.out⟩
end Go.Proofs.YticcianbphljpaaGreatDoor
