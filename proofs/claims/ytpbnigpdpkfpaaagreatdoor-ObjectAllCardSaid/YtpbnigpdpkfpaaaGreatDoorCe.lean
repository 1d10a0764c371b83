/- commit.Eq: are two commits the same? -/
import Derived.Test.YtpbnigpdpkfpaaaGreatDoorP11x
import Derived.Test.YtpbnigpdpkfpaaaGreatDoorEe
import Derived.Test.YtpbnigpdpkfpaaaGreatDoorP3x
namespace Go.Proofs.YtpbnigpdpkfpaaaGreatDoor
open Go.RowKit
theorem dec_note (x y : List UInt8) (a b : ByteArray) (ha : a = ⟨x.toArray⟩) (hb : b = ⟨y.toArray⟩) : (a.toList == b.toList) = decide (x = y) := by rw [ha, hb]; exact ba_eq x y
theorem dec_nat (x y : Nat) : ((x : Int) == (y : Int)) = decide (x = y) := by
  by_cases h : x = y
  · simp [h]
  · rw [decide_eq_false h]; simp; omega
set_option maxRecDepth 20000 in
set_option maxHeartbeats 6400000 in
theorem commitEq_any (W : World) (a b : Com) (A : Option Addr) (m1 d1 : Nat) (B : Option Addr) (m2 d2 : Nat) (ha : ComAt W a A m1 d1) (hb : ComAt W b B m2 d2) (h1 : m1 ≤ 1099511627776) (h2 : m2 ≤ 1099511627776) :
    Calls Tryz.prog 65 #[.agg (comL a A m1 d1).toArray, .agg (comL b B m2 d2).toArray] W fun e W' => e = .returned (.bool (eqC a b)) ∧ Below W.heap.size W W' := by
  obtain ⟨na, hna⟩ : ∃ na : ByteArray, na = ⟨a.note.toArray⟩ := ⟨_, rfl⟩
  obtain ⟨nb, hnb⟩ : ∃ nb : ByteArray, nb = ⟨b.note.toArray⟩ := ⟨_, rfl⟩
  have K1 := (ComBlk.of (Blk.new W 28 (comL a A m1 d1))).below (((Below.refl _ (W.alloc (.cells (comL a A m1 d1).toArray 28))).alloc (Nat.le_refl _) (.cells (comL b B m2 d2).toArray 28)))
  have K2 := ComBlk.of (Blk.new (W.alloc (.cells (comL a A m1 d1).toArray 28)) 28 (comL b B m2 d2))
  rw [← hna] at K1
  rw [← hnb, hsz] at K2
  have l0 := ((Below.refl W.heap.size W).alloc (Nat.le_refl _) (.cells (comL a A m1 d1).toArray 28)).alloc (by rw [hsz]; omega) (.cells (comL b B m2 d2).toArray 28)
  obtain ⟨cs1, hcs1⟩ : ∃ cs, cs = comL a A m1 d1 := ⟨_, rfl⟩
  obtain ⟨cs2, hcs2⟩ : ∃ cs, cs = comL b B m2 d2 := ⟨_, rfl⟩
  obtain ⟨w0, hw0⟩ : ∃ w0, w0 = (W.alloc (.cells (comL a A m1 d1).toArray 28)).alloc (.cells (comL b B m2 d2).toArray 28) := ⟨_, rfl⟩
  rw [← hw0] at K1 K2 l0
  rw [← hcs1, ← hcs2] at hw0 ⊢
  have S1 := srcI_below ha.row l0
  have S2 := srcI_below hb.row l0
  have ex : ∀ s : Ext w0, ComBlk s.at_ W.heap.size a A m1 d1 na := fun s => K1.below s.below
  have ey : ∀ s : Ext w0, ComBlk s.at_ (W.heap.size + 1) b B m2 d2 nb := fun s => K2.below s.below
  obtain ⟨g1, hg1⟩ : ∃ g1, g1 = W.heap.size := ⟨_, rfl⟩
  obtain ⟨g2, hg2⟩ : ∃ g2, g2 = W.heap.size + 1 := ⟨_, rfl⟩
  rw [← hg1] at ex
  rw [← hg2] at ey
  have x1 : ∀ s : Ext w0, s.at_.cell? ⟨g1, 32, none⟩ = some (.slice A m1 d1) := fun s => (ex s).ps
  have x2 : ∀ s : Ext w0, s.at_.cell? ⟨g1, 33, none⟩ = some (.float .f64 a.wh) := fun s => (ex s).wh
  have x3 : ∀ s : Ext w0, s.at_.cell? ⟨g1, 34, none⟩ = some (.string na) := fun s => (ex s).note
  have y1 : ∀ s : Ext w0, s.at_.cell? ⟨g2, 32, none⟩ = some (.slice B m2 d2) := fun s => (ey s).ps
  have y2 : ∀ s : Ext w0, s.at_.cell? ⟨g2, 33, none⟩ = some (.float .f64 b.wh) := fun s => (ey s).wh
  have y3 : ∀ s : Ext w0, s.at_.cell? ⟨g2, 34, none⟩ = some (.string nb) := fun s => (ey s).note
  have XT : Hid (∀ w', (∃ s : Ext w0, w' = s.at_) → ∀ j v, (encI a.tree)[j]? = some v → w'.cell? ((⟨g1, 0, none⟩ : Addr).add j) = some v) := Lib.hid fun w' ⟨s, hw⟩ j v hv => by rw [hw, addr_row _ rfl, Nat.zero_add]; exact (ex s).tree j v hv
  have YT : Hid (∀ w', (∃ s : Ext w0, w' = s.at_) → ∀ j v, (encI b.tree)[j]? = some v → w'.cell? ((⟨g2, 0, none⟩ : Addr).add j) = some v) := Lib.hid fun w' ⟨s, hw⟩ j v hv => by rw [hw, addr_row _ rfl, Nat.zero_add]; exact (ey s).tree j v hv
  have IA := Lib.hid (infoId a.tree)
  have IB := Lib.hid (infoId b.tree)
  have eqT : ∀ w, (binOp .eql 24 (.agg (encI a.tree).toArray) (.agg (encI b.tree).toArray)).run Tryz.prog w = .ok (.bool (decide (a.tree = b.tree))) w := fun w => eqlAtI.1 a.tree b.tree w
  have guT : ∀ op p q w, (eqGuard op 24 p q (.agg (encI a.tree).toArray) (.agg (encI b.tree).toArray)).run Tryz.prog w = .ok () w := fun op p q w => eqlAtI.2 op p q a.tree b.tree w
  have cE : ∀ s : Ext w0, Calls Tryz.prog 124 #[.slice A m1 d1, .slice B m2 d2] s.at_ fun e w' => e = .returned (.bool (decide (a.ps = b.ps))) ∧ Below s.at_.heap.size s.at_ w' := fun s =>
    idsEqual_any s.at_ A B m1 d1 m2 d2 a.ps b.ps (srcI_below S1 s.below) (srcI_below S2 s.below) h1 h2
  have cX : ∀ w, Calls Tryz.prog 125 #[.float .f64 a.wh] w fun e w' => e = .returned (.int .u64 (fbits a.wh)) ∧ Below w.heap.size w w' := fun w => (bits_any w a.wh).mono fun _ _ ⟨h1, h2⟩ => ⟨h1, by rw [h2]; exact Below.refl _ _⟩
  have cY : ∀ w, Calls Tryz.prog 125 #[.float .f64 b.wh] w fun e w' => e = .returned (.int .u64 (fbits b.wh)) ∧ Below w.heap.size w w' := fun w => (bits_any w b.wh).mono fun _ _ ⟨h1, h2⟩ => ⟨h1, by rw [h2]; exact Below.refl _ _⟩
  have hqq := dec_nat (fbits a.wh) (fbits b.wh)
  have hnn := dec_note a.note b.note na nb hna hnb
  obtain ⟨r, hr⟩ : ∃ r, r = eqC a b := ⟨_, rfl⟩
  rw [← hr]
  unfold eqC at hr
  generalize decide (a.tree = b.tree) = t at eqT hr
  generalize decide (a.ps = b.ps) = p at cE hr
  generalize decide (fbits a.wh = fbits b.wh) = q at hqq hr
  generalize decide (a.note = b.note) = u at hnn hr
  generalize fbits a.wh = fa at cX hqq
  generalize fbits b.wh = fb at cY hqq
  generalize a.wh = wa at cX x2
  generalize b.wh = wb at cY y2
  generalize encI a.tree = ta at XT IA eqT guT
  generalize encI b.tree = tb at YT IB eqT guT
  have CE := Lib.hid cE
  have CX := Lib.hid cX
  have CY := Lib.hid cY
  have L0 := Lib.hid l0
  clear ha hb K1 K2 l0 S1 S2 ex ey cE cX cY hcs1 hcs2 hna hnb h1 h2
  go_enter Tryz.func65, Tryz.ntmps65
  go_upto_region 1 with fail
  change Code.wp _ _ _ _ ((W.alloc (.cells cs1.toArray 28)).alloc (.cells cs2.toArray 28))
  rw [← hw0, ← hg2, ← hg1]
  clear hw0 hg1 hg2
  have hemp := ext_nonempty w0
  cases t
  · have HR := Lib.hid (show r = false by rw [hr]; rfl)
    clear hr
    refine wp_region_ext (by kernel_rfl) (by kernel_rfl) ?_
    repeat (first | quiet_step (fail) | go_big_quiet_step (fail) | (refine wpQuiet_loadS (by rfl) 24 (.tmp 5) rfl ⟨g1, 0, none⟩ rfl ta Tryz.isAgg24 IA.out XT.out ?_) | (refine wpQuiet_loadS (by rfl) 24 (.tmp 7) rfl ⟨g2, 0, none⟩ rfl tb Tryz.isAgg24 IB.out YT.out ?_))
    refine wpQuiet_nil ?_
    rintro _ ⟨s9, rfl⟩
    go_wp2
    go_ret
    exact ⟨by rw [HR.out]; rfl, L0.out.trans (s9.below.mono L0.out.size)⟩
  · cases p
    · have HR := Lib.hid (show r = false by rw [hr]; rfl)
      clear hr
      refine wp_region_ext (by kernel_rfl) (by kernel_rfl) ?_
      repeat (first | quiet_step ((go_at_call 124; exact Ext.call (CE.out _))) | go_big_quiet_step ((go_at_call 124; exact Ext.call (CE.out _))) | (refine wpQuiet_loadS (by rfl) 24 (.tmp 5) rfl ⟨g1, 0, none⟩ rfl ta Tryz.isAgg24 IA.out XT.out ?_) | (refine wpQuiet_loadS (by rfl) 24 (.tmp 7) rfl ⟨g2, 0, none⟩ rfl tb Tryz.isAgg24 IB.out YT.out ?_))
      refine wpQuiet_nil ?_
      rintro _ ⟨s9, rfl⟩
      go_wp2
      go_ret
      exact ⟨by rw [HR.out]; rfl, L0.out.trans (s9.below.mono L0.out.size)⟩
    · cases q
      · have HR := Lib.hid (show r = false by rw [hr]; rfl)
        clear hr
        refine wp_region_ext (by kernel_rfl) (by kernel_rfl) ?_
        repeat (first
          | quiet_step ((first | (go_at_call 124; exact Ext.call (CE.out _)) | (go_at_call 125; exact Ext.call (CX.out _)) | (go_at_call 125; exact Ext.call (CY.out _))))
          | go_big_quiet_step ((first | (go_at_call 124; exact Ext.call (CE.out _)) | (go_at_call 125; exact Ext.call (CX.out _)) | (go_at_call 125; exact Ext.call (CY.out _))))
          | (refine wpQuiet_loadS (by rfl) 24 (.tmp 5) rfl ⟨g1, 0, none⟩ rfl ta Tryz.isAgg24 IA.out XT.out ?_) | (refine wpQuiet_loadS (by rfl) 24 (.tmp 7) rfl ⟨g2, 0, none⟩ rfl tb Tryz.isAgg24 IB.out YT.out ?_))
        refine wpQuiet_nil ?_
        rintro _ ⟨s9, rfl⟩
        go_wp2
        go_ret
        exact ⟨by rw [HR.out]; rfl, L0.out.trans (s9.below.mono L0.out.size)⟩
      · have HR := Lib.hid (show r = u by rw [hr]; rfl)
        clear hr
        refine wp_region_ext (by kernel_rfl) (by kernel_rfl) ?_
        repeat (first
          | quiet_step ((first | (go_at_call 124; exact Ext.call (CE.out _)) | (go_at_call 125; exact Ext.call (CX.out _)) | (go_at_call 125; exact Ext.call (CY.out _))))
          | go_big_quiet_step ((first | (go_at_call 124; exact Ext.call (CE.out _)) | (go_at_call 125; exact Ext.call (CX.out _)) | (go_at_call 125; exact Ext.call (CY.out _))))
          | (refine wpQuiet_loadS (by rfl) 24 (.tmp 5) rfl ⟨g1, 0, none⟩ rfl ta Tryz.isAgg24 IA.out XT.out ?_) | (refine wpQuiet_loadS (by rfl) 24 (.tmp 7) rfl ⟨g2, 0, none⟩ rfl tb Tryz.isAgg24 IB.out YT.out ?_))
        refine wpQuiet_nil ?_
        rintro _ ⟨s9, rfl⟩
        go_wp2
        go_ret
        exact ⟨by rw [HR.out]; rfl, L0.out.trans (s9.below.mono L0.out.size)⟩
end Go.Proofs.YtpbnigpdpkfpaaaGreatDoor
