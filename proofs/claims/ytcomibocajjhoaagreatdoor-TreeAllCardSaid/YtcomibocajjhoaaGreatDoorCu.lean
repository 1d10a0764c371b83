/- commit.Put: a commit's text, or none. -/
import Derived.Test.YtcomibocajjhoaaGreatDoorP12x
import Derived.Test.YtcomibocajjhoaaGreatDoorP4x
import Derived.Test.YtcomibocajjhoaaGreatDoorP3x
import Derived.Test.YtcomibocajjhoaaGreatDoorIg
namespace Go.Proofs.YtcomibocajjhoaaGreatDoor
open Go.RowKit
theorem parB_len (p : Idt) : (parB p).length = 72 := by
  have := p.2
  simp [parB, parW, hexL_length, this]
theorem parsB_len (ps : List Idt) : (parsB ps).length = ps.length * 72 := by
  induction ps with
  | nil => rfl
  | cons p r ih =>
    unfold parsB at ih ⊢
    rw [List.flatMap_cons, List.length_append, ih, parB_len, List.length_cons]
    omega
theorem parsB_take (ps : List Idt) (i : Nat) (h : i < ps.length) : parsB (ps.take (i + 1)) = parsB (ps.take i) ++ parB ps[i]! := by
  rw [← parsB_snoc]
  congr 1
  rw [List.take_add_one, getElem!_pos ps i h]
  simp [h]
/-- What commit.Put tells. -/
def putCV (c : Com) : Value := .tuple #[.string ⟨(bif mayC c then commitB c else []).toArray⟩, .bool (mayC c)]
/-- The text so far. -/
def headOf (c : Com) (k : Nat) : List UInt8 := treeW ++ hexL c.tree.1 ++ [10] ++ parsB (c.ps.take k)
theorem headOf_next (c : Com) (k : Nat) (h : k < c.ps.length) (x ph : ByteArray) (hx : x.data.toList = headOf c k) (hp : ph.data.toList = hexL c.ps[k]!.1) :
    (x ++ ((⟨#[112, 97, 114, 101, 110, 116, 32]⟩ : ByteArray) ++ ph ++ (⟨#[10]⟩ : ByteArray))).data.toList = headOf c (k + 1) := by
  unfold headOf at hx ⊢
  rw [parsB_take c.ps k h]
  simp only [ba_append, hx, hp, parB, parW]
  simp
theorem headOf_end (c : Com) (x wp nb : ByteArray) (hx : x.data.toList = headOf c c.ps.length) (hw : wp.data.toList = wput c.wh) (hn : nb.data.toList = c.note) :
    (x ++ (⟨#[119, 104, 101, 110, 32]⟩ : ByteArray) ++ wp ++ (⟨#[10, 10]⟩ : ByteArray) ++ nb).data.toList = commitB c := by
  unfold headOf at hx
  rw [List.take_length] at hx
  simp only [ba_append, hx, hw, hn, commitB, whenW]
theorem headOf_size (c : Com) (k : Nat) (x : ByteArray) (hx : x.data.toList = headOf c k) (h4 : k ≤ 4) (hk : k ≤ c.ps.length) : x.size ≤ 400 := by
  have := c.tree.2
  rw [ba_size, hx]
  unfold headOf
  simp only [List.length_append, hexL_length, parsB_len, List.length_take, treeW, List.length_cons, List.length_nil] <;> omega
set_option maxRecDepth 20000 in
set_option maxHeartbeats 3200000 in
theorem commitPut_no (W : World) (c : Com) (B : Option Addr) (m d : Nat) (h : ComAt W c B m d) (hm : m ≤ 1099511627776) (hq : mayC c = false) :
    Calls Tryz.prog 13 #[.agg (comL c B m d).toArray] W fun e W' => e = .returned (.tuple #[.string ⟨#[]⟩, .bool false]) ∧ Below W.heap.size W W' := by
  have l0 := (Below.refl W.heap.size W).alloc (Nat.le_refl _) (.cells (comL c B m d).toArray 33)
  have k0 := Blk.new W 33 (comL c B m d)
  have ic := infoC c B m d
  have cM := fun w (hw : Below W.heap.size W w) => commitMay_any w c B m d (h.below hw) hm
  rw [hq] at cM
  obtain ⟨w0, hw0⟩ : ∃ w0, w0 = W.alloc (.cells (comL c B m d).toArray 33) := ⟨_, rfl⟩
  rw [← hw0] at l0 k0
  generalize comL c B m d = cs at *
  have CM := Lib.hid cM
  have L0 := Lib.hid l0
  have K0 := Lib.hid k0
  have IC := Lib.hid ic
  clear h hm hq l0 k0 ic cM
  go_enter Tryz.func13, Tryz.ntmps13
  go_upto_region 1 with fail
  change Code.wp _ _ _ _ (W.alloc (.cells cs.toArray 33))
  rw [← hw0]
  clear hw0
  go_wp2_with (first
    | (refine wpl_loadS rfl 33 (.tmp 1) rfl ⟨W.heap.size, 0, none⟩ rfl cs Tryz.isAgg33 IC.out (fun j u hu => by rw [addr_row _ rfl, Nat.zero_add]; exact K0.out.cell j u hu) ?_)
    | (go_at_call 43; refine (CM.out _ L0.out).mono ?_; rintro e w1 ⟨rfl, h1⟩; have B1 := Lib.hid h1; clear h1))
  go_ret2
  exact ⟨rfl, L0.out.trans (B1.out.mono L0.out.size)⟩
set_option maxRecDepth 20000 in
set_option maxHeartbeats 6400000 in
theorem commitPut_yes (W : World) (c : Com) (B : Option Addr) (m d : Nat) (h : ComAt W c B m d) (hm : m ≤ 1099511627776) (hG : Gl W) (hq : mayC c = true) :
    Calls Tryz.prog 13 #[.agg (comL c B m d).toArray] W fun e W' => e = .returned (.tuple #[.string ⟨(commitB c).toArray⟩, .bool true]) ∧ Below W.heap.size W W' := by
  have zI := zI_eq
  have LN := Lib.hid h.len
  obtain ⟨nb, hnb⟩ : ∃ nb : ByteArray, nb = ⟨c.note.toArray⟩ := ⟨_, rfl⟩
  have hms : m ≤ 4 ∧ nb.size ≤ 100 := by
    have h1 := hq
    unfold mayC at h1
    simp only [Bool.and_eq_true, decide_eq_true_eq] at h1
    have e : nb.size = c.note.length := by rw [hnb, ba_size]
    have := LN.out
    omega
  obtain ⟨h4, hnz⟩ := hms
  have l0 := (Below.refl W.heap.size W).alloc (Nat.le_refl _) (.cells (comL c B m d).toArray 33)
  have k0 := ComBlk.of (Blk.new W 33 (comL c B m d))
  rw [← hnb] at k0
  have ic := infoC c B m d
  have cM := fun w (hw : Below W.heap.size W w) => commitMay_any w c B m d (h.below hw) hm
  rw [hq] at cM
  obtain ⟨w0, hw0⟩ : ∃ w0, w0 = W.alloc (.cells (comL c B m d).toArray 33) := ⟨_, rfl⟩
  rw [← hw0] at l0 k0
  have s0 := srcI_below h.row l0
  have CM := Lib.hid cM
  have L0 := Lib.hid l0
  have K0 := Lib.hid k0
  have IC := Lib.hid ic
  have S0 := Lib.hid s0
  have HB := Lib.hid h.bits
  have FM : Hid (fmay c.wh = true) := Lib.hid (by unfold mayC at hq; simp only [Bool.and_eq_true] at hq; exact hq.2)
  have HG := Lib.hid (hG.below l0)
  have TI := Lib.hid (infoId c.tree)
  have cT : ∀ w, Calls Tryz.prog 44 #[.agg (encI c.tree).toArray] w fun e w' => e = .returned (.string ⟨(hexL c.tree.1).toArray⟩) ∧ Below w.heap.size w w' := fun w => hex_any w c.tree.1 c.tree.2
  obtain ⟨th, hth⟩ : ∃ th : ByteArray, th = ⟨(hexL c.tree.1).toArray⟩ := ⟨_, rfl⟩
  rw [← hth] at cT
  have CT := Lib.hid cT
  have h0 : ((⟨#[116, 114, 101, 101, 32]⟩ : ByteArray) ++ th ++ (⟨#[10]⟩ : ByteArray)).data.toList = headOf c 0 := by
    simp only [ba_append, hth, headOf, treeW, parsB]
    simp
  have H0 := Lib.hid h0
  have th64 : th.size = 64 := by rw [hth, ba_size]; show (hexL c.tree.1).length = 64; rw [hexL_length, c.tree.2]
  have m9 : (m : Int) ≤ 4 := by omega
  have NZ := Lib.hid hnz
  have NB := Lib.hid hnb
  have H4 := Lib.hid h4
  have HCS : ∃ cs, cs = comL c B m d := ⟨_, rfl⟩
  obtain ⟨cs, hcs⟩ := HCS
  rw [← hcs] at CM IC hw0 ⊢
  have KW : Hid (∀ j u, cs[j]? = some u → w0.cell? ((⟨W.heap.size, 0, none⟩ : Addr).add j) = some u) := Lib.hid fun j u hu => by rw [addr_row _ rfl, Nat.zero_add]; rw [hcs] at hu; exact K0.out.blk.cell j u hu
  clear h hm hq l0 k0 ic cM s0 hG cT hth h0 hnz hnb h4 hcs
  obtain ⟨g, hg⟩ : ∃ g, g = W.heap.size := ⟨_, rfl⟩
  rw [← hg] at K0 KW
  go_enter Tryz.func13, Tryz.ntmps13
  go_upto_region 1 with fail
  change Code.wp _ _ _ _ (W.alloc (.cells cs.toArray 33))
  rw [← hw0, ← hg]
  clear hw0 hg
  go_upto_region 3 with (first
    | (refine wpl_loadS rfl 33 (.tmp 1) rfl ⟨g, 0, none⟩ rfl cs Tryz.isAgg33 IC.out KW.out ?_)
    | (go_at_call 43; refine (CM.out _ L0.out).mono ?_; rintro e w1 ⟨rfl, h1⟩; have B1 := Lib.hid h1; clear h1))
  clear KW IC CM
  go_upto_region 4 with (first
    | (refine wpl_loadS rfl 30 (.tmp 10) rfl ⟨g, 0, none⟩ rfl (encI c.tree) Tryz.isAgg30 TI.out (fun j u hu => by rw [addr_row _ rfl, Nat.zero_add]; exact (K0.out.below B1.out).tree j u hu) ?_)
    | (go_at_call 44; refine (CT.out _).mono ?_; rintro e w2 ⟨rfl, h2⟩; have B2 := Lib.hid h2; clear h2))
  have L2 := Lib.hid (B1.out.trans (B2.out.mono B1.out.size))
  have p2 := (K0.out.below L2.out).ps
  clear TI CT B2 B1
  generalize (⟨#[116, 114, 101, 101, 32]⟩ : ByteArray) ++ th ++ (⟨#[10]⟩ : ByteArray) = x0 at H0 ⊢
  clear th64
  go_wp2
  clear p2
  go_loopw [4, 18] (fun s i wr => ∃ (k : Nat) (x : ByteArray), k ≤ m ∧ i = .int .i64 k ∧ s = .string x ∧ x.data.toList = headOf c k ∧ Below w0.heap.size w0 wr) (fun _ i _ => m - (intOf i).toNat)
  case atStart => exact ⟨0, x0, by omega, rfl, rfl, H0.out, L2.out⟩
  case round =>
    obtain ⟨k, x, hk, rfl, rfl, hx, hb⟩ := hrel
    clear H0 L2
    have BR := Lib.hid hb
    have xs : x.size ≤ 400 := headOf_size c k x hx (by have := H4.out; omega) (by have := LN.out; omega)
    by_cases hlt : k < m
    · have k1 : (k : Int) < (m : Int) := by omega
      have hln := LN.out
      obtain ⟨_, b, o, rfl, hc⟩ := src_names (srcI_below S0.out BR.out) (by omega)
      have c1 : ∀ j v, (encI c.ps[k]!)[j]? = some v → wr.cell? ((⟨b, o + k * 32, none⟩ : Addr).add j) = some v := idtE.at_elem (hc k hlt)
      obtain ⟨ph, hph⟩ : ∃ ph : ByteArray, ph = ⟨(hexL c.ps[k]!.1).toArray⟩ := ⟨_, rfl⟩
      have ph64 : ph.size = 64 := by rw [hph, ba_size]; show (hexL c.ps[k]!.1).length = 64; rw [hexL_length, c.ps[k]!.2]
      have cP : ∀ w, Calls Tryz.prog 44 #[.agg (encI c.ps[k]!).toArray] w fun e w' => e = .returned (.string ph) ∧ Below w.heap.size w w' := fun w => by rw [hph]; exact hex_any w c.ps[k]!.1 c.ps[k]!.2
      have NX := Lib.hid (headOf_next c k (by omega) x ph hx (by rw [hph]))
      have pI := infoId c.ps[k]!
      have p1 := encI_one c.ps[k]!
      have pl := encI_len c.ps[k]!
      generalize encI c.ps[k]! = pc at c1 cP pI p1 pl
      have CP := Lib.hid cP
      have C1 := Lib.hid c1
      have PI := Lib.hid pI
      have P1 := Lib.hid p1
      have PL := Lib.hid pl
      have HLT := Lib.hid hlt
      clear hc c1 cP pI p1 pl hph hlt hk hx hb hln
      go_upto_region 7 with (first
        | (refine wpl_loadS rfl 30 (.tmp 20) rfl ⟨b, o + k * 32, none⟩ rfl pc Tryz.isAgg30 PI.out C1.out ?_)
        | (refine wpl_storeS rfl 30 (.tmp 6) _ rfl wr.heap.size pc rfl rfl 30 zero32 (Blk.new wr _ _) PI.out (by rw [PL.out]; simp [zero32]) P1.out ?_))
      generalize hw3 : World.setRow _ _ _ = w3
      have E3 : Hid (Below wr.heap.size wr w3) := Lib.hid (by rw [← hw3]; exact below_setRow' ((Below.refl _ _).alloc (Nat.le_refl _) _) (Nat.le_refl _) _)
      have K3 : Hid (Blk w3 wr.heap.size 30 pc) := Lib.hid (by rw [← hw3]; exact (Blk.new wr 30 zero32).row _)
      have L3 := Lib.hid (BR.out.trans (E3.out.mono BR.out.size))
      clear hw3 C1
      generalize wr.heap.size = gp at K3 ⊢
      go_wp2_with (first
        | (refine wpl_loadS rfl 30 (.tmp 6) rfl ⟨gp, 0, none⟩ rfl pc Tryz.isAgg30 PI.out (fun j u hu => by rw [addr_row _ rfl, Nat.zero_add]; exact K3.out.cell j u hu) ?_)
        | (go_at_call 44; refine (CP.out _).mono ?_; rintro e w4 ⟨rfl, h4⟩; have B4 := Lib.hid h4; clear h4))
      go_roundw
      case measure => simp [intOf]; have := HLT.out; omega
      case rel => exact ⟨k + 1, _, HLT.out, by go_num, rfl, NX.out, L3.out.trans (B4.out.mono L3.out.size)⟩
    · have : k = m := by omega
      subst this
      have hln := LN.out
      have hb64 := HB.out
      obtain ⟨wp, hwp⟩ : ∃ wp : ByteArray, wp = ⟨(wput c.wh).toArray⟩ := ⟨_, rfl⟩
      have cW : ∀ s : Ext wr, Calls Tryz.prog 45 #[.float .f64 c.wh] s.at_ fun e w' => e = .returned (.string wp) ∧ Below s.at_.heap.size s.at_ w' := fun s => by rw [hwp]; exact wput_any s.at_ c.wh hb64 (HG.out.below (BR.out.trans (s.below.mono BR.out.size)))
      have wz : wp.size = 16 := by rw [hwp, ba_size]; exact wput_len hb64 FM.out
      obtain ⟨fb, hfb⟩ : ∃ fb : ByteArray, fb = ⟨(commitB c).toArray⟩ := ⟨_, rfl⟩
      have HF : Hid (x ++ (⟨#[119, 104, 101, 110, 32]⟩ : ByteArray) ++ wp ++ (⟨#[10, 10]⟩ : ByteArray) ++ nb = fb) := Lib.hid (by rw [hfb]; exact ba_ext (headOf_end c x wp nb (by rw [hln]; exact hx) (by rw [hwp]) (by rw [NB.out])))
      have FB := Lib.hid hfb
      have q2 : ∀ s : Ext wr, s.at_.cell? ⟨g, 33, none⟩ = some (.float .f64 c.wh) := fun s => (K0.out.below (BR.out.trans (s.below.mono BR.out.size))).wh
      have q3 : ∀ s : Ext wr, s.at_.cell? ⟨g, 34, none⟩ = some (.string nb) := fun s => (K0.out.below (BR.out.trans (s.below.mono BR.out.size))).note
      have nz := NZ.out
      generalize c.wh = wh at cW q2
      have CW := Lib.hid cW
      have LE := Lib.hid (L0.out.trans (BR.out.mono L0.out.size))
      have hemp := ext_nonempty wr
      clear hwp cW hfb hx hb hk hlt hln hb64
      go_upto_region 9 with fail
      refine wp_region_ext (by kernel_rfl) (by kernel_rfl) ?_
      repeat (first | quiet_step ((go_at_call 45; exact Ext.call (CW.out _))) | go_big_quiet_step ((go_at_call 45; exact Ext.call (CW.out _))))
      refine wpQuiet_nil ?_
      rintro _ ⟨s9, rfl⟩
      go_wp2
      go_ret2
      rw [← FB.out]
      exact ⟨congrArg (fun z => Ending.returned (.tuple #[.string z, .bool true])) HF.out, LE.out.trans (s9.below.mono LE.out.size)⟩
theorem commitPut_any (W : World) (c : Com) (B : Option Addr) (m d : Nat) (h : ComAt W c B m d) (hm : m ≤ 1099511627776) (hG : Gl W) :
    Calls Tryz.prog 13 #[.agg (comL c B m d).toArray] W fun e W' => e = .returned (putCV c) ∧ Below W.heap.size W W' := by
  unfold putCV
  cases hq : mayC c
  · exact commitPut_no W c B m d h hm hq
  · exact commitPut_yes W c B m d h hm hG hq
end Go.Proofs.YtcomibocajjhoaaGreatDoor
