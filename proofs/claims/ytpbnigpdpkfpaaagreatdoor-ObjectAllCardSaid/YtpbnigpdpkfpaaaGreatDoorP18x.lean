/- ref5.Commit: the document's text of a commit. ref5.EqCommit: are two commits the same? -/
import Derived.Test.YtpbnigpdpkfpaaaGreatDoorP12x
import Derived.Test.YtpbnigpdpkfpaaaGreatDoorP9x
import Derived.Test.YtpbnigpdpkfpaaaGreatDoorCe
import Derived.Test.YtpbnigpdpkfpaaaGreatDoorP6x
import Derived.Test.YtpbnigpdpkfpaaaGreatDoorP3x
namespace Go.Proofs.YtpbnigpdpkfpaaaGreatDoor
open Go.RowKit
set_option maxRecDepth 20000 in
set_option maxHeartbeats 6400000 in
theorem rcommit_any (W : World) (c : Com) (B : Option Addr) (m d : Nat) (h : ComAt W c B m d) (hq : mayC c = true) :
    Calls Tryz.prog 75 #[.agg (comL c B m d).toArray] W fun e W' => e = .returned (.string ⟨(commitB c).toArray⟩) ∧ Below W.heap.size W W' := by
  have LN := Lib.hid h.len
  obtain ⟨nb, hnb⟩ : ∃ nb : ByteArray, nb = ⟨c.note.toArray⟩ := ⟨_, rfl⟩
  have hms : m ≤ 4 ∧ nb.size ≤ 100 := by
    have h1 := hq
    unfold mayC at h1
    simp only [Bool.and_eq_true, decide_eq_true_eq] at h1
    have e : nb.size = c.note.length := by rw [hnb, ba_size]
    have := LN.out
    omega
  obtain ⟨h4, hnz⟩ := hms
  have l0 := (Below.refl W.heap.size W).alloc (Nat.le_refl _) (.cells (comL c B m d).toArray 28)
  have k0 := ComBlk.of (Blk.new W 28 (comL c B m d))
  rw [← hnb] at k0
  obtain ⟨w0, hw0⟩ : ∃ w0, w0 = W.alloc (.cells (comL c B m d).toArray 28) := ⟨_, rfl⟩
  rw [← hw0] at l0 k0
  have s0 := srcI_below h.row l0
  have L0 := Lib.hid l0
  have K0 := Lib.hid k0
  have S0 := Lib.hid s0
  have HB := Lib.hid h.bits
  have FM : Hid (fmay c.wh = true) := Lib.hid (by unfold mayC at hq; simp only [Bool.and_eq_true] at hq; exact hq.2)
  have TI := Lib.hid (infoId c.tree)
  have cT : ∀ w, Calls Tryz.prog 134 #[.agg (encI c.tree).toArray] w fun e w' => e = .returned (.string ⟨(hexL c.tree.1).toArray⟩) ∧ Below w.heap.size w w' := fun w => rhex_any w c.tree.1 c.tree.2
  obtain ⟨th, hth⟩ : ∃ th : ByteArray, th = ⟨(hexL c.tree.1).toArray⟩ := ⟨_, rfl⟩
  rw [← hth] at cT
  have CT := Lib.hid cT
  have h0 : ((⟨#[116, 114, 101, 101, 32]⟩ : ByteArray) ++ th ++ (⟨#[10]⟩ : ByteArray)).data.toList = headOf c 0 := by
    simp only [ba_append, hth, headOf, treeW, parsB]
    simp
  have H0 := Lib.hid h0
  have th64 : th.size = 64 := by rw [hth, ba_size]; show (hexL c.tree.1).length = 64; rw [hexL_length, c.tree.2]
  have m9 : (m : Int) ≤ 4 := by omega
  have NZ := Lib.hid hnz
  have NB := Lib.hid hnb
  have H4 := Lib.hid h4
  obtain ⟨cs, hcs⟩ : ∃ cs, cs = comL c B m d := ⟨_, rfl⟩
  rw [← hcs] at hw0 ⊢
  clear h hq l0 k0 s0 cT hth h0 hnz hnb h4 hcs
  obtain ⟨g, hg⟩ : ∃ g, g = W.heap.size := ⟨_, rfl⟩
  rw [← hg] at K0
  go_enter Tryz.func75, Tryz.ntmps75
  go_upto_region 1 with fail
  change Code.wp _ _ _ _ (W.alloc (.cells cs.toArray 28))
  rw [← hw0, ← hg]
  clear hw0 hg
  go_upto_region 2 with (first
    | (refine wpl_loadS rfl 24 (.tmp 5) rfl ⟨g, 0, none⟩ rfl (encI c.tree) Tryz.isAgg24 TI.out (fun j u hu => by rw [addr_row _ rfl, Nat.zero_add]; exact K0.out.tree j u hu) ?_)
    | (go_at_call 134; refine (CT.out _).mono ?_; rintro e w2 ⟨rfl, h2⟩; have B2 := Lib.hid h2; clear h2))
  clear TI CT
  generalize (⟨#[116, 114, 101, 101, 32]⟩ : ByteArray) ++ th ++ (⟨#[10]⟩ : ByteArray) = x0 at H0 ⊢
  clear th64
  go_wp2
  go_loopw [3, 4] (fun s i wr => ∃ (k : Nat) (x : ByteArray), k ≤ m ∧ i = .int .i64 k ∧ s = .string x ∧ x.data.toList = headOf c k ∧ Below w0.heap.size w0 wr) (fun _ i _ => m - (intOf i).toNat)
  case atStart => exact ⟨0, x0, by omega, rfl, rfl, H0.out, B2.out⟩
  case round =>
    obtain ⟨k, x, hk, rfl, rfl, hx, hb⟩ := hrel
    clear H0 B2
    have BR := Lib.hid hb
    have xs : x.size ≤ 400 := headOf_size c k x hx (by have := H4.out; omega) (by have := LN.out; omega)
    have p2 := (K0.out.below BR.out).ps
    by_cases hlt : k < m
    · have k1 : (k : Int) < (m : Int) := by omega
      have hln := LN.out
      obtain ⟨_, b, o, rfl, hc⟩ := src_names (srcI_below S0.out BR.out) (by omega)
      have c1 : ∀ j v, (encI c.ps[k]!)[j]? = some v → wr.cell? ((⟨b, o + k * 32, none⟩ : Addr).add j) = some v := idtE.at_elem (hc k hlt)
      obtain ⟨ph, hph⟩ : ∃ ph : ByteArray, ph = ⟨(hexL c.ps[k]!.1).toArray⟩ := ⟨_, rfl⟩
      have ph64 : ph.size = 64 := by rw [hph, ba_size]; show (hexL c.ps[k]!.1).length = 64; rw [hexL_length, c.ps[k]!.2]
      have cP : ∀ w, Calls Tryz.prog 134 #[.agg (encI c.ps[k]!).toArray] w fun e w' => e = .returned (.string ph) ∧ Below w.heap.size w w' := fun w => by rw [hph]; exact rhex_any w c.ps[k]!.1 c.ps[k]!.2
      have NX := Lib.hid (headOf_next c k (by omega) x ph hx (by rw [hph]))
      have pI := infoId c.ps[k]!
      generalize encI c.ps[k]! = pc at c1 cP pI
      have CP := Lib.hid cP
      have C1 := Lib.hid c1
      have PI := Lib.hid pI
      have HLT := Lib.hid hlt
      clear hc c1 cP pI hph hlt hk hx hb hln
      go_wp2_with (first
        | (refine wpl_loadS rfl 24 (.tmp 21) rfl ⟨b, o + k * 32, none⟩ rfl pc Tryz.isAgg24 PI.out C1.out ?_)
        | (go_at_call 134; refine (CP.out _).mono ?_; rintro e w4 ⟨rfl, h4⟩; have B4 := Lib.hid h4; clear h4))
      go_roundw
      case measure => simp [intOf]; have := HLT.out; omega
      case rel => exact ⟨k + 1, _, HLT.out, by go_num, rfl, NX.out, BR.out.trans (B4.out.mono BR.out.size)⟩
    · have : k = m := by omega
      subst this
      have hln := LN.out
      have hb64 := HB.out
      obtain ⟨wp, hwp⟩ : ∃ wp : ByteArray, wp = ⟨(wput c.wh).toArray⟩ := ⟨_, rfl⟩
      have cW : ∀ s : Ext wr, Calls Tryz.prog 135 #[.float .f64 c.wh] s.at_ fun e w' => e = .returned (.string wp) ∧ Below s.at_.heap.size s.at_ w' := fun s => by rw [hwp]; exact rput_any s.at_ c.wh hb64
      have wz : wp.size = 16 := by rw [hwp, ba_size]; exact wput_len hb64 FM.out
      obtain ⟨fb, hfb⟩ : ∃ fb : ByteArray, fb = ⟨(commitB c).toArray⟩ := ⟨_, rfl⟩
      have HF : Hid (x ++ (⟨#[119, 104, 101, 110, 32]⟩ : ByteArray) ++ wp ++ (⟨#[10, 10]⟩ : ByteArray) ++ nb = fb) := Lib.hid (by rw [hfb]; exact ba_ext (headOf_end c x wp nb (by rw [hln]; exact hx) (by rw [hwp]) (by rw [NB.out])))
      have FB := Lib.hid hfb
      have q2 : ∀ s : Ext wr, s.at_.cell? ⟨g, 33, none⟩ = some (.float .f64 c.wh) := fun s => (K0.out.below (BR.out.trans (s.below.mono BR.out.size))).wh
      have q3 : ∀ s : Ext wr, s.at_.cell? ⟨g, 34, none⟩ = some (.string nb) := fun s => (K0.out.below (BR.out.trans (s.below.mono BR.out.size))).note
      have nz := NZ.out
      generalize c.wh = wh at cW q2
      have CW := Lib.hid cW
      have LE := Lib.hid (L0.out.trans (BR.out.mono L0.out.size))
      have hemp := ext_nonempty wr
      clear hwp cW hfb hx hb hk hlt hln hb64
      go_upto_region 6 with fail
      refine wp_region_ext (by kernel_rfl) (by kernel_rfl) ?_
      repeat (first | quiet_step ((go_at_call 135; exact Ext.call (CW.out _))) | go_big_quiet_step ((go_at_call 135; exact Ext.call (CW.out _))))
      refine wpQuiet_nil ?_
      rintro _ ⟨s9, rfl⟩
      go_wp2
      go_ret
      rw [← FB.out]
      exact ⟨congrArg (fun z => Ending.returned (.string z)) HF.out, LE.out.trans (s9.below.mono LE.out.size)⟩
end Go.Proofs.YtpbnigpdpkfpaaaGreatDoor
namespace Go.Proofs.YtpbnigpdpkfpaaaGreatDoor
open Go.RowKit
set_option maxRecDepth 20000 in
set_option maxHeartbeats 6400000 in
theorem reqC_any (W : World) (a b : Com) (A : Option Addr) (m1 d1 : Nat) (B : Option Addr) (m2 d2 : Nat) (ha : ComAt W a A m1 d1) (hb : ComAt W b B m2 d2) (h1 : m1 ≤ 1099511627776) (h2 : m2 ≤ 1099511627776) :
    Calls Tryz.prog 67 #[.agg (comL a A m1 d1).toArray, .agg (comL b B m2 d2).toArray] W fun e W' => e = .returned (.bool (eqC a b)) ∧ Below W.heap.size W W' := by
  obtain ⟨na, hna⟩ : ∃ na : ByteArray, na = ⟨a.note.toArray⟩ := ⟨_, rfl⟩
  obtain ⟨nb, hnb⟩ : ∃ nb : ByteArray, nb = ⟨b.note.toArray⟩ := ⟨_, rfl⟩
  have K1 := (ComBlk.of (Blk.new W 28 (comL a A m1 d1))).below (((Below.refl _ (W.alloc (.cells (comL a A m1 d1).toArray 28))).alloc (Nat.le_refl _) (.cells (comL b B m2 d2).toArray 28)))
  have K2 := ComBlk.of (Blk.new (W.alloc (.cells (comL a A m1 d1).toArray 28)) 28 (comL b B m2 d2))
  rw [← hna] at K1
  rw [← hnb, hsz] at K2
  have l0 := ((Below.refl W.heap.size W).alloc (Nat.le_refl _) (.cells (comL a A m1 d1).toArray 28)).alloc (by rw [hsz]; omega) (.cells (comL b B m2 d2).toArray 28)
  obtain ⟨cs1, hcs1⟩ : ∃ cs, cs = comL a A m1 d1 := ⟨_, rfl⟩
  obtain ⟨cs2, hcs2⟩ : ∃ cs, cs = comL b B m2 d2 := ⟨_, rfl⟩
  obtain ⟨w0, hw0⟩ : ∃ w0, w0 = (W.alloc (.cells (comL a A m1 d1).toArray 28)).alloc (.cells (comL b B m2 d2).toArray 28) := ⟨_, rfl⟩
  rw [← hw0] at K1 K2 l0
  rw [← hcs1, ← hcs2] at hw0 ⊢
  have S1 := srcI_below ha.row l0
  have S2 := srcI_below hb.row l0
  have ex : ∀ s : Ext w0, ComBlk s.at_ W.heap.size a A m1 d1 na := fun s => K1.below s.below
  have ey : ∀ s : Ext w0, ComBlk s.at_ (W.heap.size + 1) b B m2 d2 nb := fun s => K2.below s.below
  obtain ⟨g1, hg1⟩ : ∃ g1, g1 = W.heap.size := ⟨_, rfl⟩
  obtain ⟨g2, hg2⟩ : ∃ g2, g2 = W.heap.size + 1 := ⟨_, rfl⟩
  rw [← hg1] at ex
  rw [← hg2] at ey
  have x1 : ∀ s : Ext w0, s.at_.cell? ⟨g1, 32, none⟩ = some (.slice A m1 d1) := fun s => (ex s).ps
  have x2 : ∀ s : Ext w0, s.at_.cell? ⟨g1, 33, none⟩ = some (.float .f64 a.wh) := fun s => (ex s).wh
  have x3 : ∀ s : Ext w0, s.at_.cell? ⟨g1, 34, none⟩ = some (.string na) := fun s => (ex s).note
  have y1 : ∀ s : Ext w0, s.at_.cell? ⟨g2, 32, none⟩ = some (.slice B m2 d2) := fun s => (ey s).ps
  have y2 : ∀ s : Ext w0, s.at_.cell? ⟨g2, 33, none⟩ = some (.float .f64 b.wh) := fun s => (ey s).wh
  have y3 : ∀ s : Ext w0, s.at_.cell? ⟨g2, 34, none⟩ = some (.string nb) := fun s => (ey s).note
  have XT : Hid (∀ w', (∃ s : Ext w0, w' = s.at_) → ∀ j v, (encI a.tree)[j]? = some v → w'.cell? ((⟨g1, 0, none⟩ : Addr).add j) = some v) := Lib.hid fun w' ⟨s, hw⟩ j v hv => by rw [hw, addr_row _ rfl, Nat.zero_add]; exact (ex s).tree j v hv
  have YT : Hid (∀ w', (∃ s : Ext w0, w' = s.at_) → ∀ j v, (encI b.tree)[j]? = some v → w'.cell? ((⟨g2, 0, none⟩ : Addr).add j) = some v) := Lib.hid fun w' ⟨s, hw⟩ j v hv => by rw [hw, addr_row _ rfl, Nat.zero_add]; exact (ey s).tree j v hv
  have IA := Lib.hid (infoId a.tree)
  have IB := Lib.hid (infoId b.tree)
  have eqT : ∀ w, (binOp .eql 24 (.agg (encI a.tree).toArray) (.agg (encI b.tree).toArray)).run Tryz.prog w = .ok (.bool (decide (a.tree = b.tree))) w := fun w => eqlAtI.1 a.tree b.tree w
  have guT : ∀ op p q w, (eqGuard op 24 p q (.agg (encI a.tree).toArray) (.agg (encI b.tree).toArray)).run Tryz.prog w = .ok () w := fun op p q w => eqlAtI.2 op p q a.tree b.tree w
  have cE : ∀ s : Ext w0, Calls Tryz.prog 27 #[.slice A m1 d1, .slice B m2 d2] s.at_ fun e w' => e = .returned (.bool (decide (a.ps = b.ps))) ∧ Below s.at_.heap.size s.at_ w' := fun s =>
    (ieq_any s.at_ A B m1 m2 d1 d2 a.ps b.ps (srcI_below S1 s.below) (srcI_below S2 s.below) h1 h2).mono fun _ _ ⟨e1, q, e2⟩ => ⟨e1, by rw [e2]; exact below_drewN' (Below.refl _ _) q⟩
  have cX : ∀ w, Calls Tryz.prog 126 #[.float .f64 a.wh] w fun e w' => e = .returned (.int .u64 (fbits a.wh)) ∧ Below w.heap.size w w' := fun w => (rbits_any w a.wh).mono fun _ _ ⟨h1, h2⟩ => ⟨h1, by rw [h2]; exact Below.refl _ _⟩
  have cY : ∀ w, Calls Tryz.prog 126 #[.float .f64 b.wh] w fun e w' => e = .returned (.int .u64 (fbits b.wh)) ∧ Below w.heap.size w w' := fun w => (rbits_any w b.wh).mono fun _ _ ⟨h1, h2⟩ => ⟨h1, by rw [h2]; exact Below.refl _ _⟩
  have hqq := dec_nat (fbits a.wh) (fbits b.wh)
  have hnn := dec_note a.note b.note na nb hna hnb
  obtain ⟨r, hr⟩ : ∃ r, r = eqC a b := ⟨_, rfl⟩
  rw [← hr]
  unfold eqC at hr
  generalize decide (a.tree = b.tree) = t at eqT hr
  generalize decide (a.ps = b.ps) = p at cE hr
  generalize decide (fbits a.wh = fbits b.wh) = q at hqq hr
  generalize decide (a.note = b.note) = u at hnn hr
  generalize fbits a.wh = fa at cX hqq
  generalize fbits b.wh = fb at cY hqq
  generalize a.wh = wa at cX x2
  generalize b.wh = wb at cY y2
  generalize encI a.tree = ta at XT IA eqT guT
  generalize encI b.tree = tb at YT IB eqT guT
  have CE := Lib.hid cE
  have CX := Lib.hid cX
  have CY := Lib.hid cY
  have L0 := Lib.hid l0
  clear ha hb K1 K2 l0 S1 S2 ex ey cE cX cY hcs1 hcs2 hna hnb h1 h2
  go_enter Tryz.func67, Tryz.ntmps67
  go_upto_region 1 with fail
  change Code.wp _ _ _ _ ((W.alloc (.cells cs1.toArray 28)).alloc (.cells cs2.toArray 28))
  rw [← hw0, ← hg2, ← hg1]
  clear hw0 hg1 hg2
  have hemp := ext_nonempty w0
  cases t
  · have HR := Lib.hid (show r = false by rw [hr]; rfl)
    clear hr
    refine wp_region_ext (by kernel_rfl) (by kernel_rfl) ?_
    repeat (first | quiet_step (fail) | go_big_quiet_step (fail) | (refine wpQuiet_loadS (by rfl) 24 (.tmp 5) rfl ⟨g1, 0, none⟩ rfl ta Tryz.isAgg24 IA.out XT.out ?_) | (refine wpQuiet_loadS (by rfl) 24 (.tmp 7) rfl ⟨g2, 0, none⟩ rfl tb Tryz.isAgg24 IB.out YT.out ?_))
    refine wpQuiet_nil ?_
    rintro _ ⟨s9, rfl⟩
    go_wp2
    go_ret
    exact ⟨by rw [HR.out]; rfl, L0.out.trans (s9.below.mono L0.out.size)⟩
  · cases p
    · have HR := Lib.hid (show r = false by rw [hr]; rfl)
      clear hr
      refine wp_region_ext (by kernel_rfl) (by kernel_rfl) ?_
      repeat (first | quiet_step ((go_at_call 27; exact Ext.call (CE.out _))) | go_big_quiet_step ((go_at_call 27; exact Ext.call (CE.out _))) | (refine wpQuiet_loadS (by rfl) 24 (.tmp 5) rfl ⟨g1, 0, none⟩ rfl ta Tryz.isAgg24 IA.out XT.out ?_) | (refine wpQuiet_loadS (by rfl) 24 (.tmp 7) rfl ⟨g2, 0, none⟩ rfl tb Tryz.isAgg24 IB.out YT.out ?_))
      refine wpQuiet_nil ?_
      rintro _ ⟨s9, rfl⟩
      go_wp2
      go_ret
      exact ⟨by rw [HR.out]; rfl, L0.out.trans (s9.below.mono L0.out.size)⟩
    · cases q
      · have HR := Lib.hid (show r = false by rw [hr]; rfl)
        clear hr
        refine wp_region_ext (by kernel_rfl) (by kernel_rfl) ?_
        repeat (first
          | quiet_step ((first | (go_at_call 27; exact Ext.call (CE.out _)) | (go_at_call 126; exact Ext.call (CX.out _)) | (go_at_call 126; exact Ext.call (CY.out _))))
          | go_big_quiet_step ((first | (go_at_call 27; exact Ext.call (CE.out _)) | (go_at_call 126; exact Ext.call (CX.out _)) | (go_at_call 126; exact Ext.call (CY.out _))))
          | (refine wpQuiet_loadS (by rfl) 24 (.tmp 5) rfl ⟨g1, 0, none⟩ rfl ta Tryz.isAgg24 IA.out XT.out ?_) | (refine wpQuiet_loadS (by rfl) 24 (.tmp 7) rfl ⟨g2, 0, none⟩ rfl tb Tryz.isAgg24 IB.out YT.out ?_))
        refine wpQuiet_nil ?_
        rintro _ ⟨s9, rfl⟩
        go_wp2
        go_ret
        exact ⟨by rw [HR.out]; rfl, L0.out.trans (s9.below.mono L0.out.size)⟩
      · have HR := Lib.hid (show r = u by rw [hr]; rfl)
        clear hr
        refine wp_region_ext (by kernel_rfl) (by kernel_rfl) ?_
        repeat (first
          | quiet_step ((first | (go_at_call 27; exact Ext.call (CE.out _)) | (go_at_call 126; exact Ext.call (CX.out _)) | (go_at_call 126; exact Ext.call (CY.out _))))
          | go_big_quiet_step ((first | (go_at_call 27; exact Ext.call (CE.out _)) | (go_at_call 126; exact Ext.call (CX.out _)) | (go_at_call 126; exact Ext.call (CY.out _))))
          | (refine wpQuiet_loadS (by rfl) 24 (.tmp 5) rfl ⟨g1, 0, none⟩ rfl ta Tryz.isAgg24 IA.out XT.out ?_) | (refine wpQuiet_loadS (by rfl) 24 (.tmp 7) rfl ⟨g2, 0, none⟩ rfl tb Tryz.isAgg24 IB.out YT.out ?_))
        refine wpQuiet_nil ?_
        rintro _ ⟨s9, rfl⟩
        go_wp2
        go_ret
        exact ⟨by rw [HR.out]; rfl, L0.out.trans (s9.below.mono L0.out.size)⟩
end Go.Proofs.YtpbnigpdpkfpaaaGreatDoor
