/- commit.Put: a commit's text, or none. tree.Path: a path's parts. commit.Get: a commit from a text. colporteurlaw6.Commit: a commit cut to six parents and a note of a hundred and ten. commit.Get's walk. Commits of a note alone; paths of parts that are joined. -/
import Derived.Test.YtpbnigpdpkfpaaaGreatDoorP11x
import Derived.Test.YtpbnigpdpkfpaaaGreatDoorP3x
import Derived.Test.YtpbnigpdpkfpaaaGreatDoorP2x
import Derived.Test.YtpbnigpdpkfpaaaGreatDoorP5x
import Derived.Test.YtpbnigpdpkfpaaaGreatDoorP7x
import Derived.Test.YtpbnigpdpkfpaaaGreatDoorP10x
import Derived.Test.YtpbnigpdpkfpaaaGreatDoorSh
import Derived.Test.YtpbnigpdpkfpaaaGreatDoorCn
import Derived.Test.YtpbnigpdpkfpaaaGreatDoorP8x
import Derived.Test.YtpbnigpdpkfpaaaGreatDoorCe
namespace Go.Proofs.YtpbnigpdpkfpaaaGreatDoor
open Go.RowKit
theorem parB_len (p : Idt) : (parB p).length = 72 := by
  have := p.2
  simp [parB, parW, hexL_length, this]
theorem parsB_len (ps : List Idt) : (parsB ps).length = ps.length * 72 := by
  induction ps with
  | nil => rfl
  | cons p r ih =>
    unfold parsB at ih ⊢
    rw [List.flatMap_cons, List.length_append, ih, parB_len, List.length_cons]
    omega
theorem parsB_take (ps : List Idt) (i : Nat) (h : i < ps.length) : parsB (ps.take (i + 1)) = parsB (ps.take i) ++ parB ps[i]! := by
  rw [← parsB_snoc]
  congr 1
  rw [List.take_add_one, getElem!_pos ps i h]
  simp [h]
/-- What commit.Put tells. -/
def putCV (c : Com) : Value := .tuple #[.string ⟨(bif mayC c then commitB c else []).toArray⟩, .bool (mayC c)]
/-- The text so far. -/
def headOf (c : Com) (k : Nat) : List UInt8 := treeW ++ hexL c.tree.1 ++ [10] ++ parsB (c.ps.take k)
theorem headOf_next (c : Com) (k : Nat) (h : k < c.ps.length) (x ph : ByteArray) (hx : x.data.toList = headOf c k) (hp : ph.data.toList = hexL c.ps[k]!.1) :
    (x ++ ((⟨#[112, 97, 114, 101, 110, 116, 32]⟩ : ByteArray) ++ ph ++ (⟨#[10]⟩ : ByteArray))).data.toList = headOf c (k + 1) := by
  unfold headOf at hx ⊢
  rw [parsB_take c.ps k h]
  simp only [ba_append, hx, hp, parB, parW]
  simp
theorem headOf_end (c : Com) (x wp nb : ByteArray) (hx : x.data.toList = headOf c c.ps.length) (hw : wp.data.toList = wput c.wh) (hn : nb.data.toList = c.note) :
    (x ++ (⟨#[119, 104, 101, 110, 32]⟩ : ByteArray) ++ wp ++ (⟨#[10, 10]⟩ : ByteArray) ++ nb).data.toList = commitB c := by
  unfold headOf at hx
  rw [List.take_length] at hx
  simp only [ba_append, hx, hw, hn, commitB, whenW]
theorem headOf_size (c : Com) (k : Nat) (x : ByteArray) (hx : x.data.toList = headOf c k) (h4 : k ≤ 4) (hk : k ≤ c.ps.length) : x.size ≤ 400 := by
  have := c.tree.2
  rw [ba_size, hx]
  unfold headOf
  simp only [List.length_append, hexL_length, parsB_len, List.length_take, treeW, List.length_cons, List.length_nil] <;> omega
set_option maxRecDepth 20000 in
set_option maxHeartbeats 3200000 in
theorem commitPut_no (W : World) (c : Com) (B : Option Addr) (m d : Nat) (h : ComAt W c B m d) (hm : m ≤ 1099511627776) (hq : mayC c = false) :
    Calls Tryz.prog 60 #[.agg (comL c B m d).toArray] W fun e W' => e = .returned (.tuple #[.string ⟨#[]⟩, .bool false]) ∧ Below W.heap.size W W' := by
  have l0 := (Below.refl W.heap.size W).alloc (Nat.le_refl _) (.cells (comL c B m d).toArray 28)
  have k0 := Blk.new W 28 (comL c B m d)
  have ic := infoC c B m d
  have cM := fun w (hw : Below W.heap.size W w) => commitMay_any w c B m d (h.below hw) hm
  rw [hq] at cM
  obtain ⟨w0, hw0⟩ : ∃ w0, w0 = W.alloc (.cells (comL c B m d).toArray 28) := ⟨_, rfl⟩
  rw [← hw0] at l0 k0
  generalize comL c B m d = cs at *
  have CM := Lib.hid cM
  have L0 := Lib.hid l0
  have K0 := Lib.hid k0
  have IC := Lib.hid ic
  clear h hm hq l0 k0 ic cM
  go_enter Tryz.func60, Tryz.ntmps60
  go_upto_region 1 with fail
  change Code.wp _ _ _ _ (W.alloc (.cells cs.toArray 28))
  rw [← hw0]
  clear hw0
  go_wp2_with (first
    | (refine wpl_loadS rfl 28 (.tmp 1) rfl ⟨W.heap.size, 0, none⟩ rfl cs Tryz.isAgg28 IC.out (fun j u hu => by rw [addr_row _ rfl, Nat.zero_add]; exact K0.out.cell j u hu) ?_)
    | (go_at_call 72; refine (CM.out _ L0.out).mono ?_; rintro e w1 ⟨rfl, h1⟩; have B1 := Lib.hid h1; clear h1))
  go_ret2
  exact ⟨rfl, L0.out.trans (B1.out.mono L0.out.size)⟩
set_option maxRecDepth 20000 in
set_option maxHeartbeats 6400000 in
theorem commitPut_yes (W : World) (c : Com) (B : Option Addr) (m d : Nat) (h : ComAt W c B m d) (hm : m ≤ 1099511627776) (hG : Gl W) (hq : mayC c = true) :
    Calls Tryz.prog 60 #[.agg (comL c B m d).toArray] W fun e W' => e = .returned (.tuple #[.string ⟨(commitB c).toArray⟩, .bool true]) ∧ Below W.heap.size W W' := by
  have zI := zI_eq
  have LN := Lib.hid h.len
  obtain ⟨nb, hnb⟩ : ∃ nb : ByteArray, nb = ⟨c.note.toArray⟩ := ⟨_, rfl⟩
  have hms : m ≤ 4 ∧ nb.size ≤ 100 := by
    have h1 := hq
    unfold mayC at h1
    simp only [Bool.and_eq_true, decide_eq_true_eq] at h1
    have e : nb.size = c.note.length := by rw [hnb, ba_size]
    have := LN.out
    omega
  obtain ⟨h4, hnz⟩ := hms
  have l0 := (Below.refl W.heap.size W).alloc (Nat.le_refl _) (.cells (comL c B m d).toArray 28)
  have k0 := ComBlk.of (Blk.new W 28 (comL c B m d))
  rw [← hnb] at k0
  have ic := infoC c B m d
  have cM := fun w (hw : Below W.heap.size W w) => commitMay_any w c B m d (h.below hw) hm
  rw [hq] at cM
  obtain ⟨w0, hw0⟩ : ∃ w0, w0 = W.alloc (.cells (comL c B m d).toArray 28) := ⟨_, rfl⟩
  rw [← hw0] at l0 k0
  have s0 := srcI_below h.row l0
  have CM := Lib.hid cM
  have L0 := Lib.hid l0
  have K0 := Lib.hid k0
  have IC := Lib.hid ic
  have S0 := Lib.hid s0
  have HB := Lib.hid h.bits
  have FM : Hid (fmay c.wh = true) := Lib.hid (by unfold mayC at hq; simp only [Bool.and_eq_true] at hq; exact hq.2)
  have HG := Lib.hid (hG.below l0)
  have TI := Lib.hid (infoId c.tree)
  have cT : ∀ w, Calls Tryz.prog 111 #[.agg (encI c.tree).toArray] w fun e w' => e = .returned (.string ⟨(hexL c.tree.1).toArray⟩) ∧ Below w.heap.size w w' := fun w => hex_any w c.tree.1 c.tree.2
  obtain ⟨th, hth⟩ : ∃ th : ByteArray, th = ⟨(hexL c.tree.1).toArray⟩ := ⟨_, rfl⟩
  rw [← hth] at cT
  have CT := Lib.hid cT
  have h0 : ((⟨#[116, 114, 101, 101, 32]⟩ : ByteArray) ++ th ++ (⟨#[10]⟩ : ByteArray)).data.toList = headOf c 0 := by
    simp only [ba_append, hth, headOf, treeW, parsB]
    simp
  have H0 := Lib.hid h0
  have th64 : th.size = 64 := by rw [hth, ba_size]; show (hexL c.tree.1).length = 64; rw [hexL_length, c.tree.2]
  have m9 : (m : Int) ≤ 4 := by omega
  have NZ := Lib.hid hnz
  have NB := Lib.hid hnb
  have H4 := Lib.hid h4
  have HCS : ∃ cs, cs = comL c B m d := ⟨_, rfl⟩
  obtain ⟨cs, hcs⟩ := HCS
  rw [← hcs] at CM IC hw0 ⊢
  have KW : Hid (∀ j u, cs[j]? = some u → w0.cell? ((⟨W.heap.size, 0, none⟩ : Addr).add j) = some u) := Lib.hid fun j u hu => by rw [addr_row _ rfl, Nat.zero_add]; rw [hcs] at hu; exact K0.out.blk.cell j u hu
  clear h hm hq l0 k0 ic cM s0 hG cT hth h0 hnz hnb h4 hcs
  obtain ⟨g, hg⟩ : ∃ g, g = W.heap.size := ⟨_, rfl⟩
  rw [← hg] at K0 KW
  go_enter Tryz.func60, Tryz.ntmps60
  go_upto_region 1 with fail
  change Code.wp _ _ _ _ (W.alloc (.cells cs.toArray 28))
  rw [← hw0, ← hg]
  clear hw0 hg
  go_upto_region 3 with (first
    | (refine wpl_loadS rfl 28 (.tmp 1) rfl ⟨g, 0, none⟩ rfl cs Tryz.isAgg28 IC.out KW.out ?_)
    | (go_at_call 72; refine (CM.out _ L0.out).mono ?_; rintro e w1 ⟨rfl, h1⟩; have B1 := Lib.hid h1; clear h1))
  clear KW IC CM
  go_upto_region 4 with (first
    | (refine wpl_loadS rfl 24 (.tmp 10) rfl ⟨g, 0, none⟩ rfl (encI c.tree) Tryz.isAgg24 TI.out (fun j u hu => by rw [addr_row _ rfl, Nat.zero_add]; exact (K0.out.below B1.out).tree j u hu) ?_)
    | (go_at_call 111; refine (CT.out _).mono ?_; rintro e w2 ⟨rfl, h2⟩; have B2 := Lib.hid h2; clear h2))
  have L2 := Lib.hid (B1.out.trans (B2.out.mono B1.out.size))
  have p2 := (K0.out.below L2.out).ps
  clear TI CT B2 B1
  generalize (⟨#[116, 114, 101, 101, 32]⟩ : ByteArray) ++ th ++ (⟨#[10]⟩ : ByteArray) = x0 at H0 ⊢
  clear th64
  go_wp2
  clear p2
  go_loopw [4, 18] (fun s i wr => ∃ (k : Nat) (x : ByteArray), k ≤ m ∧ i = .int .i64 k ∧ s = .string x ∧ x.data.toList = headOf c k ∧ Below w0.heap.size w0 wr) (fun _ i _ => m - (intOf i).toNat)
  case atStart => exact ⟨0, x0, by omega, rfl, rfl, H0.out, L2.out⟩
  case round =>
    obtain ⟨k, x, hk, rfl, rfl, hx, hb⟩ := hrel
    clear H0 L2
    have BR := Lib.hid hb
    have xs : x.size ≤ 400 := headOf_size c k x hx (by have := H4.out; omega) (by have := LN.out; omega)
    by_cases hlt : k < m
    · have k1 : (k : Int) < (m : Int) := by omega
      have hln := LN.out
      obtain ⟨_, b, o, rfl, hc⟩ := src_names (srcI_below S0.out BR.out) (by omega)
      have c1 : ∀ j v, (encI c.ps[k]!)[j]? = some v → wr.cell? ((⟨b, o + k * 32, none⟩ : Addr).add j) = some v := idtE.at_elem (hc k hlt)
      obtain ⟨ph, hph⟩ : ∃ ph : ByteArray, ph = ⟨(hexL c.ps[k]!.1).toArray⟩ := ⟨_, rfl⟩
      have ph64 : ph.size = 64 := by rw [hph, ba_size]; show (hexL c.ps[k]!.1).length = 64; rw [hexL_length, c.ps[k]!.2]
      have cP : ∀ w, Calls Tryz.prog 111 #[.agg (encI c.ps[k]!).toArray] w fun e w' => e = .returned (.string ph) ∧ Below w.heap.size w w' := fun w => by rw [hph]; exact hex_any w c.ps[k]!.1 c.ps[k]!.2
      have NX := Lib.hid (headOf_next c k (by omega) x ph hx (by rw [hph]))
      have pI := infoId c.ps[k]!
      have p1 := encI_one c.ps[k]!
      have pl := encI_len c.ps[k]!
      generalize encI c.ps[k]! = pc at c1 cP pI p1 pl
      have CP := Lib.hid cP
      have C1 := Lib.hid c1
      have PI := Lib.hid pI
      have P1 := Lib.hid p1
      have PL := Lib.hid pl
      have HLT := Lib.hid hlt
      clear hc c1 cP pI p1 pl hph hlt hk hx hb hln
      go_upto_region 7 with (first
        | (refine wpl_loadS rfl 24 (.tmp 20) rfl ⟨b, o + k * 32, none⟩ rfl pc Tryz.isAgg24 PI.out C1.out ?_)
        | (refine wpl_storeS rfl 24 (.tmp 6) _ rfl wr.heap.size pc rfl rfl 24 zero32 (Blk.new wr _ _) PI.out (by rw [PL.out]; simp [zero32]) P1.out ?_))
      generalize hw3 : World.setRow _ _ _ = w3
      have E3 : Hid (Below wr.heap.size wr w3) := Lib.hid (by rw [← hw3]; exact below_setRow' ((Below.refl _ _).alloc (Nat.le_refl _) _) (Nat.le_refl _) _)
      have K3 : Hid (Blk w3 wr.heap.size 24 pc) := Lib.hid (by rw [← hw3]; exact (Blk.new wr 24 zero32).row _)
      have L3 := Lib.hid (BR.out.trans (E3.out.mono BR.out.size))
      clear hw3 C1
      generalize wr.heap.size = gp at K3 ⊢
      go_wp2_with (first
        | (refine wpl_loadS rfl 24 (.tmp 6) rfl ⟨gp, 0, none⟩ rfl pc Tryz.isAgg24 PI.out (fun j u hu => by rw [addr_row _ rfl, Nat.zero_add]; exact K3.out.cell j u hu) ?_)
        | (go_at_call 111; refine (CP.out _).mono ?_; rintro e w4 ⟨rfl, h4⟩; have B4 := Lib.hid h4; clear h4))
      go_roundw
      case measure => simp [intOf]; have := HLT.out; omega
      case rel => exact ⟨k + 1, _, HLT.out, by go_num, rfl, NX.out, L3.out.trans (B4.out.mono L3.out.size)⟩
    · have : k = m := by omega
      subst this
      have hln := LN.out
      have hb64 := HB.out
      obtain ⟨wp, hwp⟩ : ∃ wp : ByteArray, wp = ⟨(wput c.wh).toArray⟩ := ⟨_, rfl⟩
      have cW : ∀ s : Ext wr, Calls Tryz.prog 112 #[.float .f64 c.wh] s.at_ fun e w' => e = .returned (.string wp) ∧ Below s.at_.heap.size s.at_ w' := fun s => by rw [hwp]; exact wput_any s.at_ c.wh hb64 (HG.out.below (BR.out.trans (s.below.mono BR.out.size)))
      have wz : wp.size = 16 := by rw [hwp, ba_size]; exact wput_len hb64 FM.out
      obtain ⟨fb, hfb⟩ : ∃ fb : ByteArray, fb = ⟨(commitB c).toArray⟩ := ⟨_, rfl⟩
      have HF : Hid (x ++ (⟨#[119, 104, 101, 110, 32]⟩ : ByteArray) ++ wp ++ (⟨#[10, 10]⟩ : ByteArray) ++ nb = fb) := Lib.hid (by rw [hfb]; exact ba_ext (headOf_end c x wp nb (by rw [hln]; exact hx) (by rw [hwp]) (by rw [NB.out])))
      have FB := Lib.hid hfb
      have q2 : ∀ s : Ext wr, s.at_.cell? ⟨g, 33, none⟩ = some (.float .f64 c.wh) := fun s => (K0.out.below (BR.out.trans (s.below.mono BR.out.size))).wh
      have q3 : ∀ s : Ext wr, s.at_.cell? ⟨g, 34, none⟩ = some (.string nb) := fun s => (K0.out.below (BR.out.trans (s.below.mono BR.out.size))).note
      have nz := NZ.out
      generalize c.wh = wh at cW q2
      have CW := Lib.hid cW
      have LE := Lib.hid (L0.out.trans (BR.out.mono L0.out.size))
      have hemp := ext_nonempty wr
      clear hwp cW hfb hx hb hk hlt hln hb64
      go_upto_region 9 with fail
      refine wp_region_ext (by kernel_rfl) (by kernel_rfl) ?_
      repeat (first | quiet_step ((go_at_call 112; exact Ext.call (CW.out _))) | go_big_quiet_step ((go_at_call 112; exact Ext.call (CW.out _))))
      refine wpQuiet_nil ?_
      rintro _ ⟨s9, rfl⟩
      go_wp2
      go_ret2
      rw [← FB.out]
      exact ⟨congrArg (fun z => Ending.returned (.tuple #[.string z, .bool true])) HF.out, LE.out.trans (s9.below.mono LE.out.size)⟩
theorem commitPut_any (W : World) (c : Com) (B : Option Addr) (m d : Nat) (h : ComAt W c B m d) (hm : m ≤ 1099511627776) (hG : Gl W) :
    Calls Tryz.prog 60 #[.agg (comL c B m d).toArray] W fun e W' => e = .returned (putCV c) ∧ Below W.heap.size W W' := by
  unfold putCV
  cases hq : mayC c
  · exact commitPut_no W c B m d h hm hq
  · exact commitPut_yes W c B m d h hm hG hq
end Go.Proofs.YtpbnigpdpkfpaaaGreatDoor
namespace Go.Proofs.YtpbnigpdpkfpaaaGreatDoor
open Go.RowKit
theorem splitB_Ss (s : ByteArray) (d : UInt8) : (Lib.splitB ⟨#[d]⟩ 0 (Lib.countB s ⟨#[d]⟩) s).map Value.string = Ss (Lib.split s.data.toList [d]) := by
  have h := Lib.splitB_data ⟨#[d]⟩ 0 (Lib.countB s ⟨#[d]⟩) s
  have e : Lib.splitK [d] 0 (Lib.countB s ⟨#[d]⟩) s.data.toList = Lib.split s.data.toList [d] := rfl
  rw [e] at h
  unfold Ss
  rw [← h, List.map_map]
  refine List.map_congr_left fun b _ => ?_
  show Value.string b = Value.string ⟨b.data.toList.toArray⟩
  simp
/-- strings.Split at one sign. -/
theorem split_any (W : World) (s : ByteArray) (d : UInt8) (hs : s.size < 4294967281) (hG : Gl W) :
    Calls Tryz.prog 114 #[.string s, .string ⟨#[d]⟩] W fun e W' => ∃ L, L = Lib.split s.data.toList [d] ∧ e = .returned (.slice (some ⟨W.heap.size, 0, none⟩) L.length L.length) ∧ Src W' 1 (some ⟨W.heap.size, 0, none⟩) L.length (Ss L) ∧ Below W.heap.size W W' ∧ W'.heap.size = W.heap.size + 1 := by
  obtain ⟨m, hm⟩ := hG.mlen
  have hc := Tryz.strings_Split s ⟨#[d]⟩ m W hs hm (Nat.le_refl 1)
  refine hc.mono ?_
  rintro e w ⟨rfl, rfl⟩
  have hL := splitB_Ss s d
  have hlen := Lib.splitB_all ⟨#[d]⟩ (Nat.le_refl 1) 0 _ s rfl
  have hl2 : (Lib.split s.data.toList [d]).length = Lib.countB s ⟨#[d]⟩ + 1 := by
    have := congrArg List.length hL
    simpa [Ss, hlen] using this.symm
  refine ⟨_, rfl, by rw [hl2], ?_, (Below.refl _ _).alloc (Nat.le_refl _) _, hsz _ _⟩
  rw [hL]
  refine ⟨by simp [Ss], fun _ => ⟨_, rfl, fun j u hj => ?_⟩, fun u hu => by
    unfold Ss at hu
    obtain ⟨x, _, rfl⟩ := List.mem_map.1 hu
    rfl⟩
  rw [addr_row _ rfl, Nat.zero_add]
  exact (Blk.new W 9 _).cell j u hj
def PathPost (W : World) (s : List UInt8) (e : Ending) (W' : World) : Prop := ∃ A c, e = .returned (.tuple #[.slice A (pathV s).1.length c, .bool (pathV s).2]) ∧ Src W' 1 A (pathV s).1.length (Ss (pathV s).1) ∧ Below W.heap.size W W'
theorem split_short (s : List UInt8) (_d : UInt8) : ∀ x ∈ partsP s, x.length ≤ s.length := by
  obtain ⟨_, _, h3⟩ := partsP_holds s [[]] (by simp) (by simp)
  have h3 : joinS 47 (partsP s) = s := by rw [joinS] at h3; exact h3
  have key : ∀ L : List (List UInt8), ∀ x ∈ L, x.length ≤ (joinS 47 L).length := by
    intro L
    induction L with
    | nil => intro x hx; cases hx
    | cons l r ih =>
      intro x hx
      cases r with
      | nil => rw [List.mem_singleton.1 hx]; exact Nat.le_refl _
      | cons y r =>
        rw [joinS_cons 47 l (by simp), List.length_append, List.length_cons]
        rcases List.mem_cons.1 hx with rfl | h
        · omega
        · have := ih x h; omega
  intro x hx
  have := key _ x hx
  rwa [h3] at this
set_option maxHeartbeats 1600000 in
theorem treePath_any (W : World) (s : ByteArray) (l : List UInt8) (hl : l = s.data.toList) (hs : s.size < 4294967281) (hG : Gl W) : Calls Tryz.prog 63 #[.string s] W (PathPost W l) := by
  have hz : l.length = s.size := by rw [hl, ← ba_size]
  by_cases h0 : l = []
  · subst h0
    have : s = ⟨#[]⟩ := ba_ext (by rw [← hl])
    subst this
    unfold PathPost
    have e : pathV [] = ([], true) := rfl
    rw [e]
    clear hl hs hz hG
    go_enter Tryz.func63, Tryz.ntmps63
    go_wp2
    go_ret2
    exact ⟨none, 0, rfl, ⟨rfl, fun h => by omega, fun u hu => by cases hu⟩, Below.refl _ _⟩
  · have hne : (s.toList == []) = false := by rw [ByteArray.toList_eq, ← hl]; simpa using h0
    have hc := split_any W s 47 hs hG
    rw [← hl, partsP_split] at hc
    have hsh := split_short l 47
    have hpl := partsP_len l
    obtain ⟨ps, hps⟩ : ∃ ps, ps = partsP l := ⟨_, rfl⟩
    rw [← hps] at hc hsh hpl
    have hv : pathV l = if ps.all nameB = true then (ps, true) else ([], false) := by unfold pathV; rw [if_neg h0, hps]
    unfold PathPost
    rw [hv]
    have HC := Lib.hid hc
    have SH := Lib.hid (fun t ht => Nat.le_trans (hsh t ht) (by omega) : ∀ t ∈ ps, t.length ≤ 9223372036854775807)
    have PL := Lib.hid (show ps.length ≤ 1099511627776 by omega)
    clear hl hs hz hG h0 hc hsh hpl hps hv
    cases hq : ps.all nameB
    all_goals
      have HQ := Lib.hid hq
      clear hq
      go_enter Tryz.func63, Tryz.ntmps63
      go_wp2_with (first
        | (go_at_call 114; refine HC.out.mono ?_; rintro e w1 ⟨L, rfl, rfl, hsr, hb, _⟩; have SR := Lib.hid hsr; have B1 := Lib.hid hb; clear hsr hb)
        | (go_at_call 120; refine (partsBad_any _ _ _ _ _ SR.out PL.out SH.out).mono ?_; rintro e w2 ⟨he, hb⟩; rw [HQ.out] at he; subst he; have B2 := Lib.hid hb; clear hb))
      go_ret2
      first
        | exact ⟨none, ⟨0, rfl⟩, ⟨rfl, fun h => absurd h (Nat.lt_irrefl 0), fun u hu => by cases hu⟩, B1.out.trans (B2.out.mono B1.out.size)⟩
        | exact ⟨_, ⟨_, rfl⟩, src_below SR.out B2.out, B1.out.trans (B2.out.mono B1.out.size)⟩
end Go.Proofs.YtpbnigpdpkfpaaaGreatDoor
namespace Go.Proofs.YtpbnigpdpkfpaaaGreatDoor
open Go.RowKit
/-- A commit of noughts. -/
def zeroC : List Value := comL noCom none 0 0
theorem builtC : BuiltAs Tryz.prog 28 zeroC [(0, 32), (32, 1), (33, 1), (34, 1)] := fun parts => by
  obtain ⟨it, hi, hz⟩ : ∃ it, Tryz.prog.info? 28 = some it ∧ it.zero.map Value.cells = some zeroC.toArray := by
    have h : (Tryz.prog.info? 28).map (fun it => it.zero.map Value.cells) = some (some zeroC.toArray) := by kernel_rfl
    exact Option.map_eq_some_iff.1 h
  exact built_fill _ _ _ it hi Tryz.underlying28 hz (by kernel_rfl)
theorem built_noteC (nb : ByteArray) : Tryz.prog.built 28 [(3, .string nb)] = some (comL ⟨default, [], 0, nb.data.toList⟩ none 0 0).toArray := by
  rw [builtC, fill_one _ _ 3 _ _ 34 [.string nb] rfl (by simp) (by simp [zeroC, comL_len]), Instr.fill]
  have h1 : (encI default).take 34 = encI default := List.take_of_length_le (by rw [encI_len]; omega)
  have h2 : (encI default).drop 35 = [] := List.drop_of_length_le (by rw [encI_len]; omega)
  simp [zeroC, comL, noCom, encI_len, List.take_append, List.drop_append, h1, h2]
theorem comL_set32 (c : Com) (A A' : Option Addr) (m d m' d' : Nat) (ps : List Idt) : (comL c A m d).set 32 (.slice A' m' d') = comL { c with ps := ps } A' m' d' := by
  unfold comL
  rw [List.set_append_right _ _ (by rw [encI_len]; omega), encI_len]
  rfl
theorem comL_set33 (c : Com) (A : Option Addr) (m d : Nat) (b : Nat) : (comL c A m d).set 33 (.float .f64 b) = comL { c with wh := b } A m d := by
  unfold comL
  rw [List.set_append_right _ _ (by rw [encI_len]; omega), encI_len]
  rfl
theorem comL_setTree (c : Com) (A : Option Addr) (m d : Nat) (x : Idt) : (comL c A m d).take 0 ++ encI x ++ (comL c A m d).drop (0 + (encI x).length) = comL { c with tree := x } A m d := by
  unfold comL
  rw [encI_len, List.take_zero, List.nil_append, Nat.zero_add, List.drop_append, List.drop_of_length_le (by rw [encI_len]; omega), encI_len]
  rfl
theorem Blk.there {w : World} {g : Nat} {t : TypeId} {cs : List Value} (h : Blk w g t cs) (o n : Nat) (hn : o + n ≤ cs.length) : w.there g o n := by
  intro j hj
  refine ⟨?_, h.frozen _⟩
  rw [h.cell (o + j) _ (List.getElem?_eq_getElem (by omega))]
  rfl
/-- The commit that is being read, in a block of its own behind V. -/
structure ComIn (V w : World) (c : Com) : Prop where
  ex : ∃ A d, Blk w V.heap.size 28 (comL c A c.ps.length d) ∧ RowQ w V.heap.size 24 32 (.slice A c.ps.length d) c.ps.length (rowI c.ps) ∧ (Value.slice A c.ps.length d).ownBlock ≠ some V.heap.size
  low : Below V.heap.size V w
  bits : c.wh < 18446744073709551616
theorem ComIn.below {V w w' : World} {c : Com} (h : ComIn V w c) (hb : Below w.heap.size w w') : ComIn V w' c := by
  obtain ⟨A, d, h1, h2, h3⟩ := h.ex
  exact ⟨⟨A, d, h1.below hb, h2.below hb, h3⟩, h.low.trans (hb.mono h.low.size), h.bits⟩
theorem below_setCell' {B : Nat} {a w : World} (h : Below B a w) (g j : Nat) (hg : B ≤ g) (v : Value) : Below B a (w.setCell ⟨g, j, none⟩ v) := by
  exact h.trans ⟨rfl, rfl, rfl, by simp [World.setCell], fun k hk => heap_setCell_other w ⟨g, j, none⟩ k v (by show k ≠ g; omega)⟩
theorem ComIn.push {V w : World} {c : Com} {A : Option Addr} {d : Nat} {x : Idt} {A' : Option Addr} {d' : Nat} (hb : Blk w V.heap.size 28 (comL c A c.ps.length d)) (hr : RowQ w V.heap.size 24 32 (.slice A' (c.ps.length + 1) d') (c.ps.length + 1) (rowI c.ps ++ rowI [x]))
    (hne : (Value.slice A' (c.ps.length + 1) d').ownBlock ≠ some V.heap.size) (hl : Below V.heap.size V w) (h64 : c.wh < 18446744073709551616) : ComIn V (w.setCell ⟨V.heap.size, 32, none⟩ (.slice A' (c.ps.length + 1) d')) { c with ps := c.ps ++ [x] } := by
  have e : (c.ps ++ [x]).length = c.ps.length + 1 := by simp
  refine ⟨⟨A', d', ?_, ?_, ?_⟩, below_setCell' hl _ _ (Nat.le_refl _) _, h64⟩
  · have := hb.setCell 32 (.slice A' (c.ps.length + 1) d')
    rw [comL_set32 c A A' _ _ _ _ (c.ps ++ [x])] at this
    simp only [e]
    exact this
  · simp only [e]
    rw [rowI_append]
    exact hr.far hne _
  · simp only [e]
    exact hne
theorem ComIn.time {V w : World} {c : Com} (h : ComIn V w c) (b : Nat) (h64 : b < 18446744073709551616) : ComIn V (w.setCell ⟨V.heap.size, 33, none⟩ (.float .f64 b)) { c with wh := b } := by
  obtain ⟨A, d, h1, h2, h3⟩ := h.ex
  refine ⟨⟨A, d, ?_, h2.far h3 _, h3⟩, below_setCell' h.low _ _ (Nat.le_refl _) _, h64⟩
  have := h1.setCell 33 (.float .f64 b)
  rw [comL_set33] at this
  exact this
theorem ComIn.cell {V w : World} {c : Com} (h : ComIn V w c) (j : Nat) (hj : j < 35) : (∃ v, w.cell? ⟨V.heap.size, j, none⟩ = some v) ∧ w.frozen? ⟨V.heap.size, j, none⟩ = false := by
  obtain ⟨A, d, h1, _, _⟩ := h.ex
  have hl := comL_len c A c.ps.length d
  exact ⟨⟨_, h1.cell j _ (List.getElem?_eq_getElem (by rw [hl]; exact hj))⟩, h1.frozen j⟩
theorem ComIn.there {V w : World} {c : Com} (h : ComIn V w c) : w.there V.heap.size 0 32 := by
  obtain ⟨A, d, h1, _, _⟩ := h.ex
  exact h1.there 0 32 (by rw [comL_len]; omega)
theorem ComIn.name {V w : World} {c : Com} (h : ComIn V w c) (x : Idt) : ComIn V (w.setCells V.heap.size 0 (encI x)) { c with tree := x } := by
  obtain ⟨A, d, h1, h2, h3⟩ := h.ex
  refine ⟨⟨A, d, ?_, h2.of_block fun k hk => heap_setCells_other V.heap.size k (fun e => h3 (by rw [hk, e])) _ 0 w, h3⟩, ?_, h.bits⟩
  · have := Blk.setCells (encI x) 0 w _ h1 (by rw [encI_len, comL_len]; omega)
    rwa [comL_setTree] at this
  · refine h.low.trans ⟨?_, ?_, ?_, ?_, ?_⟩
    · exact (setCells_os V.heap.size (encI x) 0 w).1
    · exact (setCells_os V.heap.size (encI x) 0 w).2.1
    · exact (setCells_os V.heap.size (encI x) 0 w).2.2
    · rw [size_setCells]; exact Nat.le_refl _
    · exact fun k hk => heap_setCells_other V.heap.size k (by omega) _ 0 w
/-- What commit.Get tells. -/
def GetCPost (W : World) (l : List UInt8) (e : Ending) (W' : World) : Prop := match getC l with
  | some c => ∃ A d, e = .returned (.tuple #[.agg (comL c A c.ps.length d).toArray, .int .i64 0]) ∧ RowQ W' W.heap.size 24 32 (.slice A c.ps.length d) c.ps.length (rowI c.ps) ∧ Below W.heap.size W W'
  | none => e = .returned (.tuple #[.agg zeroC.toArray, .int .i64 1]) ∧ Below W.heap.size W W'
theorem splitK_short (sep : List UInt8) : ∀ (k : Nat) (s : List UInt8), ∀ x ∈ Lib.splitK sep 0 k s, x.length ≤ s.length := by
  intro k
  induction k with
  | zero => intro s x hx; rw [Lib.splitK, List.mem_singleton] at hx; rw [hx]; exact Nat.le_refl _
  | succ k ih =>
    intro s x hx
    rw [Lib.splitK] at hx
    split at hx
    · rw [List.mem_singleton] at hx; rw [hx]; exact Nat.le_refl _
    · rcases List.mem_cons.1 hx with rfl | h
      · rw [List.length_take]; omega
      · have := ih _ _ h
        rw [List.length_drop] at this
        omega
theorem splitL_short (s sep : List UInt8) : ∀ x ∈ Lib.split s sep, x.length ≤ s.length := splitK_short sep _ s
theorem foldl_next (T : List (List UInt8)) (k : Nat) (hk : k < T.length) (c1 c : Com) (h : c = (T.take k).foldl stepC c1) : (T.take (k + 1)).foldl stepC c1 = stepC c (T.getD k []) := by
  rw [List.take_add_one, List.foldl_append, ← h]
  simp [hk, List.getD_eq_getElem?_getD]
theorem stepC_eq (c : Com) (ll : List UInt8) : stepC c ll = if (namedV ll parW).2 = true then { c with ps := c.ps ++ [(namedV ll parW).1] } else if whenW.isPrefixOf ll = true then { c with wh := (wgetV (ll.drop 5)).1 } else c := rfl
theorem infoZC : (Tryz.prog.info? 28).map (·.size) = some zeroC.length := by
  have h : (Tryz.prog.info? 28).map (·.size) = some 35 := by kernel_rfl
  rw [h]
  rfl
theorem own_ne {w : World} {v v' : Value} {g : Nat} (hne : v.ownBlock ≠ some g) (ha : v'.ownBlock = v.ownBlock ∨ v'.ownBlock = some w.heap.size) (hg : g < w.heap.size) : v'.ownBlock ≠ some g := by
  rcases ha with e | e
  · rw [e]; exact hne
  · rw [e]; intro e2; injection e2 with e2; omega
theorem run_storeF (w : World) (ad : Addr) (b : Nat) (v : Value) (hc : w.cell? ad = some v) (hf : w.frozen? ad = false) : (store ad (.float .f64 b)).run Tryz.prog w = .ok () (w.setCell ad (.float .f64 b)) := by
  rw [run_store _ _ _ _ _ rfl]
  simp [hc, hf]
theorem run_tailS (w : World) (A : Option Addr) (n c : Nat) (hk : 1 ≤ n) (_hc : n ≤ c) :
    (Instr.sliceAt 108 (.slice A n c) (some (.int .i64 1)) none none).run Tryz.prog w = .ok (.slice (if c = 1 then A else A.map (·.add 1)) (n - 1) (c - 1)) w := by
  have h1 : ((n : Int) - 1).toNat = n - 1 := by omega
  simp [Instr.sliceAt, Instr.slice, Instr.sliceBounds, Instr.sliceBound, go_sem]
  first | done | exact fun h => absurd h (by omega)
theorem tail_src {w : World} {g : Nat} {L : List (List UInt8)} (h : Src w 1 (some ⟨g, 0, none⟩) L.length (Ss L)) : Src w 1 (if L.length = 1 then (some ⟨g, 0, none⟩ : Option Addr) else (some (⟨g, 0, none⟩ : Addr)).map (·.add 1)) (L.length - 1) (Ss (L.drop 1)) := by
  refine ⟨by simp [Ss], fun h0 => ?_, fun u hu => by
    unfold Ss at hu
    obtain ⟨x, _, rfl⟩ := List.mem_map.1 hu
    rfl⟩
  rw [if_neg (by omega)]
  refine ⟨_, rfl, fun j u hu => ?_⟩
  obtain ⟨ad, e, hx⟩ := h.2.1 (by omega)
  obtain rfl := Option.some.inj e
  have h2 : (Ss L)[1 + j]? = some u := by
    rw [← hu]
    simp [Ss, Nat.add_comm]
  have := hx _ _ h2
  rw [addr_row _ rfl] at this
  show w.cell? (((⟨g, 0, none⟩ : Addr).add 1).add j) = some u
  rw [addr_row (⟨g, 0, none⟩ : Addr) rfl, addr_row _ rfl]
  simpa [Nat.add_assoc] using this
end Go.Proofs.YtpbnigpdpkfpaaaGreatDoor
namespace Go.Proofs.YtpbnigpdpkfpaaaGreatDoor
open Go.RowKit
theorem grown_nil {w w' : World} (h : w.grownBy w' (Value.ownBlock (.slice none 0 0))) : Below w.heap.size w w' := (Below.refl w.heap.size w).grown h (Nat.le_refl _) (fun k e => by cases e)
theorem run_uptoC (w : World) (A : Option Addr) (m c k : Nat) (hk : k ≤ c) :
    (Instr.sliceAt 25 (.slice A m c) none (some (.int .i64 k)) none).run Tryz.prog w = .ok (.slice A k c) w := by
  simp [Instr.sliceAt, Instr.slice, Instr.sliceBounds, Instr.sliceBound, go_sem]
  exact fun h => absurd h (by omega)
theorem comL_set34 (c : Com) (A : Option Addr) (m d : Nat) (s : ByteArray) : (comL c A m d).set 34 (.string s) = comL { c with note := s.data.toList } A m d := by
  unfold comL
  rw [List.set_append_right _ _ (by rw [encI_len]; omega), encI_len]
  show _ ++ [Value.slice A m d, .float .f64 c.wh, .string s] = _ ++ [Value.slice A m d, .float .f64 c.wh, .string ⟨s.data.toList.toArray⟩]
  rw [ba_data]
/-- A call that changes nothing, as one step of a region that draws. -/
theorem step_callC {P : Program} {o : Oper} {ops : Array Oper} {a : Act} {w : World} {K : Act → World → Prop} {Q : Exit → Act → World → Prop} {E : Prop} (hgd : Region.wanted o (yielded ops a.tmps) = true) (f : FuncId) (args : Array Value) (h0 : (execOp a.eval o).run P w = .ok (.enter f args) w) (v : Value)
    (hc : Calls P f args w fun e w' => e = .returned v ∧ w' = w) (h : K (a.put o.dst v) w) : if Region.wanted o (yielded ops a.tmps) = true then Oper.wp P o a w K Q else E := by
  rw [if_pos hgd]
  unfold Oper.wp
  rw [h0]
  exact hc.mono fun e w' ⟨he, hw⟩ => by subst he; subst hw; exact h
theorem res_rowS1 {P : Program} {fn : Func} {p : Tmp} {ty : TypeId} (h : fn.results = #[.cell p ty]) (tmps : Array Value) (w : World) (g : Nat) (t : TypeId) (cs : List Value) (d : TypeDesc)
    (hp : tmps.getD p undef = .pointer (some ⟨g, 0, none⟩)) (hg : Blk w g t cs) (hu : P.underlying ty = some d) (hd : (match d with | .struct _ | .array _ _ => true | _ => false) = true) (hi : (P.info? ty).map (·.size) = some cs.length) :
    (results fn tmps).run P w = .ok (.agg cs.toArray) w := results_cell_row h tmps w g t cs.toArray (0, 0) d hp hg hu hd (by simpa using hi)
set_option maxRecDepth 20000 in
set_option maxHeartbeats 12800000 in
theorem comCut_any (W : World) (c : Com) (B : Option Addr) (m d : Nat) (h : ComAt W c B m d) (q : Nat) (hq : q = min m 6) :
    Calls Tryz.prog 66 #[.agg (comL c B m d).toArray] W fun e W' => ∃ B' d', e = .returned (.agg (comL ⟨c.tree, c.ps.take q, c.wh, c.note.take 110⟩ B' q d').toArray) ∧ RowQ W' W.heap.size 24 32 (.slice B' q d') q (rowI (c.ps.take q)) ∧ Below W.heap.size W W' := by
  have hmin : min (m : Int) 6 = (q : Int) := by omega
  have hqd : (q : Int) ≤ (d : Int) := by have := h.cap; omega
  have Q6 := Lib.hid (show q ≤ 6 by omega)
  have MD := Lib.hid h.cap
  have sl1 := fun w => run_uptoC w B m d q (by have := h.cap; omega)
  obtain ⟨nb, hnb⟩ : ∃ nb : ByteArray, (⟨c.note.toArray⟩ : ByteArray) = nb := ⟨_, rfl⟩
  have HNB := Lib.hid hnb
  obtain ⟨tb, htb⟩ : ∃ tb : ByteArray, tb = ⟨(c.note.take 110).toArray⟩ := ⟨_, rfl⟩
  have HTB := Lib.hid htb
  have cT : ∀ w, Calls Tryz.prog 17 #[.string nb, .int .i64 110] w fun e w' => e = .returned (.string tb) ∧ w' = w := fun w => by rw [htb, ← hnb]; exact text_cut w ⟨c.note.toArray⟩ 110
  have CT := Lib.hid cT
  obtain ⟨v0, hv0⟩ : ∃ v0, v0 = (W.alloc (.cells (comL c B m d).toArray 28)).alloc (.cells zeroC.toArray 28) := ⟨_, rfl⟩
  have hz0 : (W.alloc (.cells (comL c B m d).toArray 28)).heap.size = W.heap.size + 1 := hsz _ _
  have l0 : Below W.heap.size W v0 := by rw [hv0]; exact ((Below.refl _ _).alloc (Nat.le_refl _) _).alloc (by rw [hz0]; omega) _
  have x0 : Blk v0 W.heap.size 28 (comL c B m d) := by rw [hv0]; exact (Blk.new W _ _).alloc _
  have y0 : Blk v0 (W.heap.size + 1) 28 zeroC := by rw [hv0, ← hz0]; exact Blk.new _ _ _
  have s0 := srcI_take (srcI_below h.row l0) q (by omega)
  have IC := Lib.hid (infoC c B m d)
  obtain ⟨g, hg⟩ : ∃ g, g = W.heap.size := ⟨_, rfl⟩
  have HGG := Lib.hid hg
  rw [← hg] at x0 y0
  have X0 := Lib.hid x0
  have Y0 := Lib.hid y0
  have L0 := Lib.hid l0
  have S0 := Lib.hid s0
  obtain ⟨cl, hcl⟩ : ∃ cl, cl = comL c B m d := ⟨_, rfl⟩
  rw [← hcl] at hv0 hz0 ⊢
  have HCL := Lib.hid hcl
  clear h hq hnb htb cT l0 x0 y0 s0 hcl
  go_enter Tryz.func66, Tryz.ntmps66
  go_upto_region 1 with fail
  change Code.wp _ _ _ _ ((W.alloc (.cells cl.toArray 28)).alloc (.cells zeroC.toArray 28))
  rw [← hv0]
  try rw [hz0]
  try rw [← hg]
  clear hv0 hz0 hg
  refine wp_region_any (by kernel_rfl) ?_
  change wpAny _ _ _ _ _ _ _ (World.drew _)
  have X1 : Hid (Blk v0.drew g 28 (comL c B m d)) := Lib.hid X0.out.drew
  have Y1 : Hid (Blk v0.drew (g + 1) 28 zeroC) := Lib.hid Y0.out.drew
  have L1 : Hid (Below W.heap.size W v0.drew) := Lib.hid L0.out.drew
  have SQ : Hid (Src v0.drew 32 B q (rowI (c.ps.take q))) := Lib.hid S0.out
  generalize World.drew v0 = v1 at X1 Y1 L1 SQ ⊢
  clear X0 Y0 L0 S0
  refine wpAny_bare [0, 2, 8] 12 (by rfl) (by kernel_rfl) (fun _ _ _ d _ h => by cases d <;> exact h) ?_
  simp only [bareO, List.filterMap_cons, List.filterMap_nil, List.getElem?_toArray, List.getElem?_cons_succ, List.getElem?_cons_zero]
  repeat (first | quiet_step (fail) | go_big_quiet_step (fail))
  refine wpQuiet_nil ?_
  refine wpAny_ready (rs := [1, 3, 9]) (by kernel_rfl) (by simp) ?_
  refine (AllReady.cons rfl (fun K hK => ?_) (AllReady.cons rfl (fun K hK => ?_) (AllReady.cons rfl (fun K hK => ?_) AllReady.nil)))
  refine step_cellg (by rfl) 25 (.tmp 3) rfl ⟨g, 32, none⟩ rfl (.slice B m d) (Tryz.isAgg25 _) (X1.out.cell 32 _ (comL_at c B m d).1) ?_
  refine hK _ _ ?_
  clear hK K
  refine wpAny_ready (rs := [3, 9]) (by kernel_rfl) (by simp) ?_
  refine (AllReady.cons rfl (fun K hK => ?_) (AllReady.cons rfl (fun K hK => ?_) AllReady.nil))
  refine step_cellg (by rfl) 25 (.tmp 5) rfl ⟨g, 32, none⟩ rfl (.slice B m d) (Tryz.isAgg25 _) (X1.out.cell 32 _ (comL_at c B m d).1) ?_
  refine hK _ _ ?_
  clear hK K
  refine wpAny_ready (rs := [4, 9]) (by kernel_rfl) (by simp) ?_
  refine (AllReady.cons rfl (fun K hK => ?_) (AllReady.cons rfl (fun K hK => ?_) AllReady.nil))
  go_simp
  refine hK _ _ ?_
  clear hK K
  refine wpAny_ready (rs := [5, 9]) (by kernel_rfl) (by simp) ?_
  refine (AllReady.cons rfl (fun K hK => ?_) (AllReady.cons rfl (fun K hK => ?_) AllReady.nil))
  go_simp
  refine hK _ _ ?_
  clear hK K
  refine wpAny_ready (rs := [6, 9]) (by kernel_rfl) (by simp) ?_
  refine (AllReady.cons rfl (fun K hK => ?_) (AllReady.cons rfl (fun K hK => ?_) AllReady.nil))
  go_simp
  refine hK _ _ ?_
  clear hK K
  refine wpAny_ready (rs := [7, 9]) (by kernel_rfl) (by simp) ?_
  refine (AllReady.cons rfl (fun K hK => ?_) (AllReady.cons rfl (fun K hK => ?_) AllReady.nil))
  refine step_append_Q rfl (.const (.slice none 0 0)) (.tmp 9) 25 rfl v1.heap.size 24 (.agg zero32.toArray) 32 32 Tryz.underlying25 Tryz.infoIdz rfl (by decide) (.slice none 0 0) 0 [] rfl (RowQ.nil _ _ _ _) B q d (rowI (c.ps.take q)) rfl SQ.out (by have := Q6.out; omega) (by have := Q6.out; omega) (Nat.le_refl _) ?_
  intro v2 w2 hr2 hg2 _
  rw [Nat.zero_add, List.nil_append] at hr2
  obtain ⟨A2, c2, rfl, _, _⟩ := hr2.shape
  have R2 := Lib.hid hr2
  have B2 := Lib.hid (grown_nil hg2)
  have X2 := Lib.hid (X1.out.below B2.out)
  clear hr2 hg2
  refine hK _ _ ?_
  clear hK K
  refine wpAny_ready (rs := [9]) (by kernel_rfl) (by simp) ?_
  refine (AllReady.cons rfl (fun K hK => ?_) AllReady.nil)
  refine step_cellg (by rfl) 9 (.tmp 11) rfl ⟨g, 34, none⟩ rfl (.string nb) (Tryz.isAgg9 _) (by have := X2.out.cell 34 _ (comL_at c B m d).2.2; rw [HNB.out] at this; exact this) ?_
  refine hK _ _ ?_
  clear hK K
  rotate_left
  refine step_cellg (by rfl) 9 (.tmp 11) rfl ⟨g, 34, none⟩ rfl (.string nb) (Tryz.isAgg9 _) (by have := X1.out.cell 34 _ (comL_at c B m d).2.2; rw [HNB.out] at this; exact this) ?_
  refine hK _ _ ?_
  clear hK K
  refine wpAny_ready (rs := [7]) (by kernel_rfl) (by simp) ?_
  refine (AllReady.cons rfl (fun K hK => ?_) AllReady.nil)
  refine step_append_Q rfl (.const (.slice none 0 0)) (.tmp 9) 25 rfl v1.heap.size 24 (.agg zero32.toArray) 32 32 Tryz.underlying25 Tryz.infoIdz rfl (by decide) (.slice none 0 0) 0 [] rfl (RowQ.nil _ _ _ _) B q d (rowI (c.ps.take q)) rfl SQ.out (by have := Q6.out; omega) (by have := Q6.out; omega) (Nat.le_refl _) ?_
  intro v2 w2 hr2 hg2 _
  rw [Nat.zero_add, List.nil_append] at hr2
  obtain ⟨A2, c2, rfl, _, _⟩ := hr2.shape
  have R2 := Lib.hid hr2
  have B2 := Lib.hid (grown_nil hg2)
  have X2 := Lib.hid (X1.out.below B2.out)
  clear hr2 hg2
  refine hK _ _ ?_
  clear hK K
  rotate_left
  refine step_cellg (by rfl) 9 (.tmp 11) rfl ⟨g, 34, none⟩ rfl (.string nb) (Tryz.isAgg9 _) (by have := X1.out.cell 34 _ (comL_at c B m d).2.2; rw [HNB.out] at this; exact this) ?_
  refine hK _ _ ?_
  clear hK K
  refine wpAny_ready (rs := [6]) (by kernel_rfl) (by simp) ?_
  refine (AllReady.cons rfl (fun K hK => ?_) AllReady.nil)
  go_simp
  refine hK _ _ ?_
  clear hK K
  refine wpAny_ready (rs := [7]) (by kernel_rfl) (by simp) ?_
  refine (AllReady.cons rfl (fun K hK => ?_) AllReady.nil)
  refine step_append_Q rfl (.const (.slice none 0 0)) (.tmp 9) 25 rfl v1.heap.size 24 (.agg zero32.toArray) 32 32 Tryz.underlying25 Tryz.infoIdz rfl (by decide) (.slice none 0 0) 0 [] rfl (RowQ.nil _ _ _ _) B q d (rowI (c.ps.take q)) rfl SQ.out (by have := Q6.out; omega) (by have := Q6.out; omega) (Nat.le_refl _) ?_
  intro v2 w2 hr2 hg2 _
  rw [Nat.zero_add, List.nil_append] at hr2
  obtain ⟨A2, c2, rfl, _, _⟩ := hr2.shape
  have R2 := Lib.hid hr2
  have B2 := Lib.hid (grown_nil hg2)
  have X2 := Lib.hid (X1.out.below B2.out)
  clear hr2 hg2
  refine hK _ _ ?_
  clear hK K
  rotate_left
  refine step_cellg (by rfl) 9 (.tmp 11) rfl ⟨g, 34, none⟩ rfl (.string nb) (Tryz.isAgg9 _) (by have := X1.out.cell 34 _ (comL_at c B m d).2.2; rw [HNB.out] at this; exact this) ?_
  refine hK _ _ ?_
  clear hK K
  refine wpAny_ready (rs := [5]) (by kernel_rfl) (by simp) ?_
  refine (AllReady.cons rfl (fun K hK => ?_) AllReady.nil)
  go_simp
  refine hK _ _ ?_
  clear hK K
  refine wpAny_ready (rs := [6]) (by kernel_rfl) (by simp) ?_
  refine (AllReady.cons rfl (fun K hK => ?_) AllReady.nil)
  go_simp
  refine hK _ _ ?_
  clear hK K
  refine wpAny_ready (rs := [7]) (by kernel_rfl) (by simp) ?_
  refine (AllReady.cons rfl (fun K hK => ?_) AllReady.nil)
  refine step_append_Q rfl (.const (.slice none 0 0)) (.tmp 9) 25 rfl v1.heap.size 24 (.agg zero32.toArray) 32 32 Tryz.underlying25 Tryz.infoIdz rfl (by decide) (.slice none 0 0) 0 [] rfl (RowQ.nil _ _ _ _) B q d (rowI (c.ps.take q)) rfl SQ.out (by have := Q6.out; omega) (by have := Q6.out; omega) (Nat.le_refl _) ?_
  intro v2 w2 hr2 hg2 _
  rw [Nat.zero_add, List.nil_append] at hr2
  obtain ⟨A2, c2, rfl, _, _⟩ := hr2.shape
  have R2 := Lib.hid hr2
  have B2 := Lib.hid (grown_nil hg2)
  have X2 := Lib.hid (X1.out.below B2.out)
  clear hr2 hg2
  refine hK _ _ ?_
  clear hK K
  rotate_left
  refine step_cellg (by rfl) 9 (.tmp 11) rfl ⟨g, 34, none⟩ rfl (.string nb) (Tryz.isAgg9 _) (by have := X1.out.cell 34 _ (comL_at c B m d).2.2; rw [HNB.out] at this; exact this) ?_
  refine hK _ _ ?_
  clear hK K
  refine wpAny_ready (rs := [4]) (by kernel_rfl) (by simp) ?_
  refine (AllReady.cons rfl (fun K hK => ?_) AllReady.nil)
  go_simp
  refine hK _ _ ?_
  clear hK K
  refine wpAny_ready (rs := [5]) (by kernel_rfl) (by simp) ?_
  refine (AllReady.cons rfl (fun K hK => ?_) AllReady.nil)
  go_simp
  refine hK _ _ ?_
  clear hK K
  refine wpAny_ready (rs := [6]) (by kernel_rfl) (by simp) ?_
  refine (AllReady.cons rfl (fun K hK => ?_) AllReady.nil)
  go_simp
  refine hK _ _ ?_
  clear hK K
  refine wpAny_ready (rs := [7]) (by kernel_rfl) (by simp) ?_
  refine (AllReady.cons rfl (fun K hK => ?_) AllReady.nil)
  refine step_append_Q rfl (.const (.slice none 0 0)) (.tmp 9) 25 rfl v1.heap.size 24 (.agg zero32.toArray) 32 32 Tryz.underlying25 Tryz.infoIdz rfl (by decide) (.slice none 0 0) 0 [] rfl (RowQ.nil _ _ _ _) B q d (rowI (c.ps.take q)) rfl SQ.out (by have := Q6.out; omega) (by have := Q6.out; omega) (Nat.le_refl _) ?_
  intro v2 w2 hr2 hg2 _
  rw [Nat.zero_add, List.nil_append] at hr2
  obtain ⟨A2, c2, rfl, _, _⟩ := hr2.shape
  have R2 := Lib.hid hr2
  have B2 := Lib.hid (grown_nil hg2)
  have X2 := Lib.hid (X1.out.below B2.out)
  clear hr2 hg2
  refine hK _ _ ?_
  clear hK K
  rotate_left
  refine step_cellg (by rfl) 9 (.tmp 11) rfl ⟨g, 34, none⟩ rfl (.string nb) (Tryz.isAgg9 _) (by have := X1.out.cell 34 _ (comL_at c B m d).2.2; rw [HNB.out] at this; exact this) ?_
  refine hK _ _ ?_
  clear hK K
  refine wpAny_ready (rs := [3]) (by kernel_rfl) (by simp) ?_
  refine (AllReady.cons rfl (fun K hK => ?_) AllReady.nil)
  refine step_cellg (by rfl) 25 (.tmp 5) rfl ⟨g, 32, none⟩ rfl (.slice B m d) (Tryz.isAgg25 _) (X1.out.cell 32 _ (comL_at c B m d).1) ?_
  refine hK _ _ ?_
  clear hK K
  refine wpAny_ready (rs := [4]) (by kernel_rfl) (by simp) ?_
  refine (AllReady.cons rfl (fun K hK => ?_) AllReady.nil)
  go_simp
  refine hK _ _ ?_
  clear hK K
  refine wpAny_ready (rs := [5]) (by kernel_rfl) (by simp) ?_
  refine (AllReady.cons rfl (fun K hK => ?_) AllReady.nil)
  go_simp
  refine hK _ _ ?_
  clear hK K
  refine wpAny_ready (rs := [6]) (by kernel_rfl) (by simp) ?_
  refine (AllReady.cons rfl (fun K hK => ?_) AllReady.nil)
  go_simp
  refine hK _ _ ?_
  clear hK K
  refine wpAny_ready (rs := [7]) (by kernel_rfl) (by simp) ?_
  refine (AllReady.cons rfl (fun K hK => ?_) AllReady.nil)
  refine step_append_Q rfl (.const (.slice none 0 0)) (.tmp 9) 25 rfl v1.heap.size 24 (.agg zero32.toArray) 32 32 Tryz.underlying25 Tryz.infoIdz rfl (by decide) (.slice none 0 0) 0 [] rfl (RowQ.nil _ _ _ _) B q d (rowI (c.ps.take q)) rfl SQ.out (by have := Q6.out; omega) (by have := Q6.out; omega) (Nat.le_refl _) ?_
  intro v2 w2 hr2 hg2 _
  rw [Nat.zero_add, List.nil_append] at hr2
  obtain ⟨A2, c2, rfl, _, _⟩ := hr2.shape
  have R2 := Lib.hid hr2
  have B2 := Lib.hid (grown_nil hg2)
  have X2 := Lib.hid (X1.out.below B2.out)
  clear hr2 hg2
  refine hK _ _ ?_
  clear hK K
  rotate_left
  refine step_cellg (by rfl) 25 (.tmp 5) rfl ⟨g, 32, none⟩ rfl (.slice B m d) (Tryz.isAgg25 _) (X1.out.cell 32 _ (comL_at c B m d).1) ?_
  refine hK _ _ ?_
  clear hK K
  refine wpAny_ready (rs := [1, 4, 9]) (by kernel_rfl) (by simp) ?_
  refine (AllReady.cons rfl (fun K hK => ?_) (AllReady.cons rfl (fun K hK => ?_) (AllReady.cons rfl (fun K hK => ?_) AllReady.nil)))
  refine step_cellg (by rfl) 25 (.tmp 3) rfl ⟨g, 32, none⟩ rfl (.slice B m d) (Tryz.isAgg25 _) (X1.out.cell 32 _ (comL_at c B m d).1) ?_
  refine hK _ _ ?_
  clear hK K
  refine wpAny_ready (rs := [4, 9]) (by kernel_rfl) (by simp) ?_
  refine (AllReady.cons rfl (fun K hK => ?_) (AllReady.cons rfl (fun K hK => ?_) AllReady.nil))
  go_simp
  refine hK _ _ ?_
  clear hK K
  refine wpAny_ready (rs := [5, 9]) (by kernel_rfl) (by simp) ?_
  refine (AllReady.cons rfl (fun K hK => ?_) (AllReady.cons rfl (fun K hK => ?_) AllReady.nil))
  go_simp
  refine hK _ _ ?_
  clear hK K
  refine wpAny_ready (rs := [6, 9]) (by kernel_rfl) (by simp) ?_
  refine (AllReady.cons rfl (fun K hK => ?_) (AllReady.cons rfl (fun K hK => ?_) AllReady.nil))
  go_simp
  refine hK _ _ ?_
  clear hK K
  refine wpAny_ready (rs := [7, 9]) (by kernel_rfl) (by simp) ?_
  refine (AllReady.cons rfl (fun K hK => ?_) (AllReady.cons rfl (fun K hK => ?_) AllReady.nil))
  refine step_append_Q rfl (.const (.slice none 0 0)) (.tmp 9) 25 rfl v1.heap.size 24 (.agg zero32.toArray) 32 32 Tryz.underlying25 Tryz.infoIdz rfl (by decide) (.slice none 0 0) 0 [] rfl (RowQ.nil _ _ _ _) B q d (rowI (c.ps.take q)) rfl SQ.out (by have := Q6.out; omega) (by have := Q6.out; omega) (Nat.le_refl _) ?_
  intro v2 w2 hr2 hg2 _
  rw [Nat.zero_add, List.nil_append] at hr2
  obtain ⟨A2, c2, rfl, _, _⟩ := hr2.shape
  have R2 := Lib.hid hr2
  have B2 := Lib.hid (grown_nil hg2)
  have X2 := Lib.hid (X1.out.below B2.out)
  clear hr2 hg2
  refine hK _ _ ?_
  clear hK K
  refine wpAny_ready (rs := [9]) (by kernel_rfl) (by simp) ?_
  refine (AllReady.cons rfl (fun K hK => ?_) AllReady.nil)
  refine step_cellg (by rfl) 9 (.tmp 11) rfl ⟨g, 34, none⟩ rfl (.string nb) (Tryz.isAgg9 _) (by have := X2.out.cell 34 _ (comL_at c B m d).2.2; rw [HNB.out] at this; exact this) ?_
  refine hK _ _ ?_
  clear hK K
  rotate_left
  refine step_cellg (by rfl) 9 (.tmp 11) rfl ⟨g, 34, none⟩ rfl (.string nb) (Tryz.isAgg9 _) (by have := X1.out.cell 34 _ (comL_at c B m d).2.2; rw [HNB.out] at this; exact this) ?_
  refine hK _ _ ?_
  clear hK K
  refine wpAny_ready (rs := [7]) (by kernel_rfl) (by simp) ?_
  refine (AllReady.cons rfl (fun K hK => ?_) AllReady.nil)
  refine step_append_Q rfl (.const (.slice none 0 0)) (.tmp 9) 25 rfl v1.heap.size 24 (.agg zero32.toArray) 32 32 Tryz.underlying25 Tryz.infoIdz rfl (by decide) (.slice none 0 0) 0 [] rfl (RowQ.nil _ _ _ _) B q d (rowI (c.ps.take q)) rfl SQ.out (by have := Q6.out; omega) (by have := Q6.out; omega) (Nat.le_refl _) ?_
  intro v2 w2 hr2 hg2 _
  rw [Nat.zero_add, List.nil_append] at hr2
  obtain ⟨A2, c2, rfl, _, _⟩ := hr2.shape
  have R2 := Lib.hid hr2
  have B2 := Lib.hid (grown_nil hg2)
  have X2 := Lib.hid (X1.out.below B2.out)
  clear hr2 hg2
  refine hK _ _ ?_
  clear hK K
  rotate_left
  refine step_cellg (by rfl) 9 (.tmp 11) rfl ⟨g, 34, none⟩ rfl (.string nb) (Tryz.isAgg9 _) (by have := X1.out.cell 34 _ (comL_at c B m d).2.2; rw [HNB.out] at this; exact this) ?_
  refine hK _ _ ?_
  clear hK K
  refine wpAny_ready (rs := [6]) (by kernel_rfl) (by simp) ?_
  refine (AllReady.cons rfl (fun K hK => ?_) AllReady.nil)
  go_simp
  refine hK _ _ ?_
  clear hK K
  refine wpAny_ready (rs := [7]) (by kernel_rfl) (by simp) ?_
  refine (AllReady.cons rfl (fun K hK => ?_) AllReady.nil)
  refine step_append_Q rfl (.const (.slice none 0 0)) (.tmp 9) 25 rfl v1.heap.size 24 (.agg zero32.toArray) 32 32 Tryz.underlying25 Tryz.infoIdz rfl (by decide) (.slice none 0 0) 0 [] rfl (RowQ.nil _ _ _ _) B q d (rowI (c.ps.take q)) rfl SQ.out (by have := Q6.out; omega) (by have := Q6.out; omega) (Nat.le_refl _) ?_
  intro v2 w2 hr2 hg2 _
  rw [Nat.zero_add, List.nil_append] at hr2
  obtain ⟨A2, c2, rfl, _, _⟩ := hr2.shape
  have R2 := Lib.hid hr2
  have B2 := Lib.hid (grown_nil hg2)
  have X2 := Lib.hid (X1.out.below B2.out)
  clear hr2 hg2
  refine hK _ _ ?_
  clear hK K
  rotate_left
  refine step_cellg (by rfl) 9 (.tmp 11) rfl ⟨g, 34, none⟩ rfl (.string nb) (Tryz.isAgg9 _) (by have := X1.out.cell 34 _ (comL_at c B m d).2.2; rw [HNB.out] at this; exact this) ?_
  refine hK _ _ ?_
  clear hK K
  refine wpAny_ready (rs := [5]) (by kernel_rfl) (by simp) ?_
  refine (AllReady.cons rfl (fun K hK => ?_) AllReady.nil)
  go_simp
  refine hK _ _ ?_
  clear hK K
  refine wpAny_ready (rs := [6]) (by kernel_rfl) (by simp) ?_
  refine (AllReady.cons rfl (fun K hK => ?_) AllReady.nil)
  go_simp
  refine hK _ _ ?_
  clear hK K
  refine wpAny_ready (rs := [7]) (by kernel_rfl) (by simp) ?_
  refine (AllReady.cons rfl (fun K hK => ?_) AllReady.nil)
  refine step_append_Q rfl (.const (.slice none 0 0)) (.tmp 9) 25 rfl v1.heap.size 24 (.agg zero32.toArray) 32 32 Tryz.underlying25 Tryz.infoIdz rfl (by decide) (.slice none 0 0) 0 [] rfl (RowQ.nil _ _ _ _) B q d (rowI (c.ps.take q)) rfl SQ.out (by have := Q6.out; omega) (by have := Q6.out; omega) (Nat.le_refl _) ?_
  intro v2 w2 hr2 hg2 _
  rw [Nat.zero_add, List.nil_append] at hr2
  obtain ⟨A2, c2, rfl, _, _⟩ := hr2.shape
  have R2 := Lib.hid hr2
  have B2 := Lib.hid (grown_nil hg2)
  have X2 := Lib.hid (X1.out.below B2.out)
  clear hr2 hg2
  refine hK _ _ ?_
  clear hK K
  rotate_left
  refine step_cellg (by rfl) 9 (.tmp 11) rfl ⟨g, 34, none⟩ rfl (.string nb) (Tryz.isAgg9 _) (by have := X1.out.cell 34 _ (comL_at c B m d).2.2; rw [HNB.out] at this; exact this) ?_
  refine hK _ _ ?_
  clear hK K
  refine wpAny_ready (rs := [4]) (by kernel_rfl) (by simp) ?_
  refine (AllReady.cons rfl (fun K hK => ?_) AllReady.nil)
  go_simp
  refine hK _ _ ?_
  clear hK K
  refine wpAny_ready (rs := [5]) (by kernel_rfl) (by simp) ?_
  refine (AllReady.cons rfl (fun K hK => ?_) AllReady.nil)
  go_simp
  refine hK _ _ ?_
  clear hK K
  refine wpAny_ready (rs := [6]) (by kernel_rfl) (by simp) ?_
  refine (AllReady.cons rfl (fun K hK => ?_) AllReady.nil)
  go_simp
  refine hK _ _ ?_
  clear hK K
  refine wpAny_ready (rs := [7]) (by kernel_rfl) (by simp) ?_
  refine (AllReady.cons rfl (fun K hK => ?_) AllReady.nil)
  refine step_append_Q rfl (.const (.slice none 0 0)) (.tmp 9) 25 rfl v1.heap.size 24 (.agg zero32.toArray) 32 32 Tryz.underlying25 Tryz.infoIdz rfl (by decide) (.slice none 0 0) 0 [] rfl (RowQ.nil _ _ _ _) B q d (rowI (c.ps.take q)) rfl SQ.out (by have := Q6.out; omega) (by have := Q6.out; omega) (Nat.le_refl _) ?_
  intro v2 w2 hr2 hg2 _
  rw [Nat.zero_add, List.nil_append] at hr2
  obtain ⟨A2, c2, rfl, _, _⟩ := hr2.shape
  have R2 := Lib.hid hr2
  have B2 := Lib.hid (grown_nil hg2)
  have X2 := Lib.hid (X1.out.below B2.out)
  clear hr2 hg2
  refine hK _ _ ?_
  clear hK K
  rotate_left
  go_simp
  refine hK _ _ ?_
  clear hK K
  refine wpAny_ready (rs := [1, 5, 9]) (by kernel_rfl) (by simp) ?_
  refine (AllReady.cons rfl (fun K hK => ?_) (AllReady.cons rfl (fun K hK => ?_) (AllReady.cons rfl (fun K hK => ?_) AllReady.nil)))
  refine step_cellg (by rfl) 25 (.tmp 3) rfl ⟨g, 32, none⟩ rfl (.slice B m d) (Tryz.isAgg25 _) (X1.out.cell 32 _ (comL_at c B m d).1) ?_
  refine hK _ _ ?_
  clear hK K
  refine wpAny_ready (rs := [5, 9]) (by kernel_rfl) (by simp) ?_
  refine (AllReady.cons rfl (fun K hK => ?_) (AllReady.cons rfl (fun K hK => ?_) AllReady.nil))
  go_simp
  refine hK _ _ ?_
  clear hK K
  refine wpAny_ready (rs := [6, 9]) (by kernel_rfl) (by simp) ?_
  refine (AllReady.cons rfl (fun K hK => ?_) (AllReady.cons rfl (fun K hK => ?_) AllReady.nil))
  go_simp
  refine hK _ _ ?_
  clear hK K
  refine wpAny_ready (rs := [7, 9]) (by kernel_rfl) (by simp) ?_
  refine (AllReady.cons rfl (fun K hK => ?_) (AllReady.cons rfl (fun K hK => ?_) AllReady.nil))
  refine step_append_Q rfl (.const (.slice none 0 0)) (.tmp 9) 25 rfl v1.heap.size 24 (.agg zero32.toArray) 32 32 Tryz.underlying25 Tryz.infoIdz rfl (by decide) (.slice none 0 0) 0 [] rfl (RowQ.nil _ _ _ _) B q d (rowI (c.ps.take q)) rfl SQ.out (by have := Q6.out; omega) (by have := Q6.out; omega) (Nat.le_refl _) ?_
  intro v2 w2 hr2 hg2 _
  rw [Nat.zero_add, List.nil_append] at hr2
  obtain ⟨A2, c2, rfl, _, _⟩ := hr2.shape
  have R2 := Lib.hid hr2
  have B2 := Lib.hid (grown_nil hg2)
  have X2 := Lib.hid (X1.out.below B2.out)
  clear hr2 hg2
  refine hK _ _ ?_
  clear hK K
  refine wpAny_ready (rs := [9]) (by kernel_rfl) (by simp) ?_
  refine (AllReady.cons rfl (fun K hK => ?_) AllReady.nil)
  refine step_cellg (by rfl) 9 (.tmp 11) rfl ⟨g, 34, none⟩ rfl (.string nb) (Tryz.isAgg9 _) (by have := X2.out.cell 34 _ (comL_at c B m d).2.2; rw [HNB.out] at this; exact this) ?_
  refine hK _ _ ?_
  clear hK K
  rotate_left
  refine step_cellg (by rfl) 9 (.tmp 11) rfl ⟨g, 34, none⟩ rfl (.string nb) (Tryz.isAgg9 _) (by have := X1.out.cell 34 _ (comL_at c B m d).2.2; rw [HNB.out] at this; exact this) ?_
  refine hK _ _ ?_
  clear hK K
  refine wpAny_ready (rs := [7]) (by kernel_rfl) (by simp) ?_
  refine (AllReady.cons rfl (fun K hK => ?_) AllReady.nil)
  refine step_append_Q rfl (.const (.slice none 0 0)) (.tmp 9) 25 rfl v1.heap.size 24 (.agg zero32.toArray) 32 32 Tryz.underlying25 Tryz.infoIdz rfl (by decide) (.slice none 0 0) 0 [] rfl (RowQ.nil _ _ _ _) B q d (rowI (c.ps.take q)) rfl SQ.out (by have := Q6.out; omega) (by have := Q6.out; omega) (Nat.le_refl _) ?_
  intro v2 w2 hr2 hg2 _
  rw [Nat.zero_add, List.nil_append] at hr2
  obtain ⟨A2, c2, rfl, _, _⟩ := hr2.shape
  have R2 := Lib.hid hr2
  have B2 := Lib.hid (grown_nil hg2)
  have X2 := Lib.hid (X1.out.below B2.out)
  clear hr2 hg2
  refine hK _ _ ?_
  clear hK K
  rotate_left
  refine step_cellg (by rfl) 9 (.tmp 11) rfl ⟨g, 34, none⟩ rfl (.string nb) (Tryz.isAgg9 _) (by have := X1.out.cell 34 _ (comL_at c B m d).2.2; rw [HNB.out] at this; exact this) ?_
  refine hK _ _ ?_
  clear hK K
  refine wpAny_ready (rs := [6]) (by kernel_rfl) (by simp) ?_
  refine (AllReady.cons rfl (fun K hK => ?_) AllReady.nil)
  go_simp
  refine hK _ _ ?_
  clear hK K
  refine wpAny_ready (rs := [7]) (by kernel_rfl) (by simp) ?_
  refine (AllReady.cons rfl (fun K hK => ?_) AllReady.nil)
  refine step_append_Q rfl (.const (.slice none 0 0)) (.tmp 9) 25 rfl v1.heap.size 24 (.agg zero32.toArray) 32 32 Tryz.underlying25 Tryz.infoIdz rfl (by decide) (.slice none 0 0) 0 [] rfl (RowQ.nil _ _ _ _) B q d (rowI (c.ps.take q)) rfl SQ.out (by have := Q6.out; omega) (by have := Q6.out; omega) (Nat.le_refl _) ?_
  intro v2 w2 hr2 hg2 _
  rw [Nat.zero_add, List.nil_append] at hr2
  obtain ⟨A2, c2, rfl, _, _⟩ := hr2.shape
  have R2 := Lib.hid hr2
  have B2 := Lib.hid (grown_nil hg2)
  have X2 := Lib.hid (X1.out.below B2.out)
  clear hr2 hg2
  refine hK _ _ ?_
  clear hK K
  rotate_left
  refine step_cellg (by rfl) 9 (.tmp 11) rfl ⟨g, 34, none⟩ rfl (.string nb) (Tryz.isAgg9 _) (by have := X1.out.cell 34 _ (comL_at c B m d).2.2; rw [HNB.out] at this; exact this) ?_
  refine hK _ _ ?_
  clear hK K
  refine wpAny_ready (rs := [5]) (by kernel_rfl) (by simp) ?_
  refine (AllReady.cons rfl (fun K hK => ?_) AllReady.nil)
  go_simp
  refine hK _ _ ?_
  clear hK K
  refine wpAny_ready (rs := [6]) (by kernel_rfl) (by simp) ?_
  refine (AllReady.cons rfl (fun K hK => ?_) AllReady.nil)
  go_simp
  refine hK _ _ ?_
  clear hK K
  refine wpAny_ready (rs := [7]) (by kernel_rfl) (by simp) ?_
  refine (AllReady.cons rfl (fun K hK => ?_) AllReady.nil)
  refine step_append_Q rfl (.const (.slice none 0 0)) (.tmp 9) 25 rfl v1.heap.size 24 (.agg zero32.toArray) 32 32 Tryz.underlying25 Tryz.infoIdz rfl (by decide) (.slice none 0 0) 0 [] rfl (RowQ.nil _ _ _ _) B q d (rowI (c.ps.take q)) rfl SQ.out (by have := Q6.out; omega) (by have := Q6.out; omega) (Nat.le_refl _) ?_
  intro v2 w2 hr2 hg2 _
  rw [Nat.zero_add, List.nil_append] at hr2
  obtain ⟨A2, c2, rfl, _, _⟩ := hr2.shape
  have R2 := Lib.hid hr2
  have B2 := Lib.hid (grown_nil hg2)
  have X2 := Lib.hid (X1.out.below B2.out)
  clear hr2 hg2
  refine hK _ _ ?_
  clear hK K
  rotate_left
  go_simp
  refine hK _ _ ?_
  clear hK K
  refine wpAny_ready (rs := [1, 9]) (by kernel_rfl) (by simp) ?_
  refine (AllReady.cons rfl (fun K hK => ?_) (AllReady.cons rfl (fun K hK => ?_) AllReady.nil))
  refine step_cellg (by rfl) 25 (.tmp 3) rfl ⟨g, 32, none⟩ rfl (.slice B m d) (Tryz.isAgg25 _) (X1.out.cell 32 _ (comL_at c B m d).1) ?_
  refine hK _ _ ?_
  clear hK K
  refine wpAny_ready (rs := [6, 9]) (by kernel_rfl) (by simp) ?_
  refine (AllReady.cons rfl (fun K hK => ?_) (AllReady.cons rfl (fun K hK => ?_) AllReady.nil))
  go_simp
  refine hK _ _ ?_
  clear hK K
  refine wpAny_ready (rs := [7, 9]) (by kernel_rfl) (by simp) ?_
  refine (AllReady.cons rfl (fun K hK => ?_) (AllReady.cons rfl (fun K hK => ?_) AllReady.nil))
  refine step_append_Q rfl (.const (.slice none 0 0)) (.tmp 9) 25 rfl v1.heap.size 24 (.agg zero32.toArray) 32 32 Tryz.underlying25 Tryz.infoIdz rfl (by decide) (.slice none 0 0) 0 [] rfl (RowQ.nil _ _ _ _) B q d (rowI (c.ps.take q)) rfl SQ.out (by have := Q6.out; omega) (by have := Q6.out; omega) (Nat.le_refl _) ?_
  intro v2 w2 hr2 hg2 _
  rw [Nat.zero_add, List.nil_append] at hr2
  obtain ⟨A2, c2, rfl, _, _⟩ := hr2.shape
  have R2 := Lib.hid hr2
  have B2 := Lib.hid (grown_nil hg2)
  have X2 := Lib.hid (X1.out.below B2.out)
  clear hr2 hg2
  refine hK _ _ ?_
  clear hK K
  refine wpAny_ready (rs := [9]) (by kernel_rfl) (by simp) ?_
  refine (AllReady.cons rfl (fun K hK => ?_) AllReady.nil)
  refine step_cellg (by rfl) 9 (.tmp 11) rfl ⟨g, 34, none⟩ rfl (.string nb) (Tryz.isAgg9 _) (by have := X2.out.cell 34 _ (comL_at c B m d).2.2; rw [HNB.out] at this; exact this) ?_
  refine hK _ _ ?_
  clear hK K
  rotate_left
  refine step_cellg (by rfl) 9 (.tmp 11) rfl ⟨g, 34, none⟩ rfl (.string nb) (Tryz.isAgg9 _) (by have := X1.out.cell 34 _ (comL_at c B m d).2.2; rw [HNB.out] at this; exact this) ?_
  refine hK _ _ ?_
  clear hK K
  refine wpAny_ready (rs := [7]) (by kernel_rfl) (by simp) ?_
  refine (AllReady.cons rfl (fun K hK => ?_) AllReady.nil)
  refine step_append_Q rfl (.const (.slice none 0 0)) (.tmp 9) 25 rfl v1.heap.size 24 (.agg zero32.toArray) 32 32 Tryz.underlying25 Tryz.infoIdz rfl (by decide) (.slice none 0 0) 0 [] rfl (RowQ.nil _ _ _ _) B q d (rowI (c.ps.take q)) rfl SQ.out (by have := Q6.out; omega) (by have := Q6.out; omega) (Nat.le_refl _) ?_
  intro v2 w2 hr2 hg2 _
  rw [Nat.zero_add, List.nil_append] at hr2
  obtain ⟨A2, c2, rfl, _, _⟩ := hr2.shape
  have R2 := Lib.hid hr2
  have B2 := Lib.hid (grown_nil hg2)
  have X2 := Lib.hid (X1.out.below B2.out)
  clear hr2 hg2
  refine hK _ _ ?_
  clear hK K
  rotate_left
  refine step_cellg (by rfl) 9 (.tmp 11) rfl ⟨g, 34, none⟩ rfl (.string nb) (Tryz.isAgg9 _) (by have := X1.out.cell 34 _ (comL_at c B m d).2.2; rw [HNB.out] at this; exact this) ?_
  refine hK _ _ ?_
  clear hK K
  refine wpAny_ready (rs := [6]) (by kernel_rfl) (by simp) ?_
  refine (AllReady.cons rfl (fun K hK => ?_) AllReady.nil)
  go_simp
  refine hK _ _ ?_
  clear hK K
  refine wpAny_ready (rs := [7]) (by kernel_rfl) (by simp) ?_
  refine (AllReady.cons rfl (fun K hK => ?_) AllReady.nil)
  refine step_append_Q rfl (.const (.slice none 0 0)) (.tmp 9) 25 rfl v1.heap.size 24 (.agg zero32.toArray) 32 32 Tryz.underlying25 Tryz.infoIdz rfl (by decide) (.slice none 0 0) 0 [] rfl (RowQ.nil _ _ _ _) B q d (rowI (c.ps.take q)) rfl SQ.out (by have := Q6.out; omega) (by have := Q6.out; omega) (Nat.le_refl _) ?_
  intro v2 w2 hr2 hg2 _
  rw [Nat.zero_add, List.nil_append] at hr2
  obtain ⟨A2, c2, rfl, _, _⟩ := hr2.shape
  have R2 := Lib.hid hr2
  have B2 := Lib.hid (grown_nil hg2)
  have X2 := Lib.hid (X1.out.below B2.out)
  clear hr2 hg2
  refine hK _ _ ?_
  clear hK K
  rotate_left
  refine step_cellg (by rfl) 9 (.tmp 11) rfl ⟨g, 34, none⟩ rfl (.string nb) (Tryz.isAgg9 _) (by have := X1.out.cell 34 _ (comL_at c B m d).2.2; rw [HNB.out] at this; exact this) ?_
  refine hK _ _ ?_
  clear hK K
  refine wpAny_ready (rs := [1]) (by kernel_rfl) (by simp) ?_
  refine (AllReady.cons rfl (fun K hK => ?_) AllReady.nil)
  refine step_cellg (by rfl) 25 (.tmp 3) rfl ⟨g, 32, none⟩ rfl (.slice B m d) (Tryz.isAgg25 _) (X1.out.cell 32 _ (comL_at c B m d).1) ?_
  refine hK _ _ ?_
  clear hK K
  refine wpAny_ready (rs := [6]) (by kernel_rfl) (by simp) ?_
  refine (AllReady.cons rfl (fun K hK => ?_) AllReady.nil)
  go_simp
  refine hK _ _ ?_
  clear hK K
  refine wpAny_ready (rs := [7]) (by kernel_rfl) (by simp) ?_
  refine (AllReady.cons rfl (fun K hK => ?_) AllReady.nil)
  refine step_append_Q rfl (.const (.slice none 0 0)) (.tmp 9) 25 rfl v1.heap.size 24 (.agg zero32.toArray) 32 32 Tryz.underlying25 Tryz.infoIdz rfl (by decide) (.slice none 0 0) 0 [] rfl (RowQ.nil _ _ _ _) B q d (rowI (c.ps.take q)) rfl SQ.out (by have := Q6.out; omega) (by have := Q6.out; omega) (Nat.le_refl _) ?_
  intro v2 w2 hr2 hg2 _
  rw [Nat.zero_add, List.nil_append] at hr2
  obtain ⟨A2, c2, rfl, _, _⟩ := hr2.shape
  have R2 := Lib.hid hr2
  have B2 := Lib.hid (grown_nil hg2)
  have X2 := Lib.hid (X1.out.below B2.out)
  clear hr2 hg2
  refine hK _ _ ?_
  clear hK K
  rotate_left
  refine step_cellg (by rfl) 9 (.tmp 11) rfl ⟨g, 34, none⟩ rfl (.string nb) (Tryz.isAgg9 _) (by have := X1.out.cell 34 _ (comL_at c B m d).2.2; rw [HNB.out] at this; exact this) ?_
  refine hK _ _ ?_
  clear hK K
  refine wpAny_ready (rs := [1, 5]) (by kernel_rfl) (by simp) ?_
  refine (AllReady.cons rfl (fun K hK => ?_) (AllReady.cons rfl (fun K hK => ?_) AllReady.nil))
  refine step_cellg (by rfl) 25 (.tmp 3) rfl ⟨g, 32, none⟩ rfl (.slice B m d) (Tryz.isAgg25 _) (X1.out.cell 32 _ (comL_at c B m d).1) ?_
  refine hK _ _ ?_
  clear hK K
  refine wpAny_ready (rs := [5]) (by kernel_rfl) (by simp) ?_
  refine (AllReady.cons rfl (fun K hK => ?_) AllReady.nil)
  go_simp
  refine hK _ _ ?_
  clear hK K
  refine wpAny_ready (rs := [6]) (by kernel_rfl) (by simp) ?_
  refine (AllReady.cons rfl (fun K hK => ?_) AllReady.nil)
  go_simp
  refine hK _ _ ?_
  clear hK K
  refine wpAny_ready (rs := [7]) (by kernel_rfl) (by simp) ?_
  refine (AllReady.cons rfl (fun K hK => ?_) AllReady.nil)
  refine step_append_Q rfl (.const (.slice none 0 0)) (.tmp 9) 25 rfl v1.heap.size 24 (.agg zero32.toArray) 32 32 Tryz.underlying25 Tryz.infoIdz rfl (by decide) (.slice none 0 0) 0 [] rfl (RowQ.nil _ _ _ _) B q d (rowI (c.ps.take q)) rfl SQ.out (by have := Q6.out; omega) (by have := Q6.out; omega) (Nat.le_refl _) ?_
  intro v2 w2 hr2 hg2 _
  rw [Nat.zero_add, List.nil_append] at hr2
  obtain ⟨A2, c2, rfl, _, _⟩ := hr2.shape
  have R2 := Lib.hid hr2
  have B2 := Lib.hid (grown_nil hg2)
  have X2 := Lib.hid (X1.out.below B2.out)
  clear hr2 hg2
  refine hK _ _ ?_
  clear hK K
  rotate_left
  go_simp
  refine hK _ _ ?_
  clear hK K
  refine wpAny_ready (rs := [1]) (by kernel_rfl) (by simp) ?_
  refine (AllReady.cons rfl (fun K hK => ?_) AllReady.nil)
  refine step_cellg (by rfl) 25 (.tmp 3) rfl ⟨g, 32, none⟩ rfl (.slice B m d) (Tryz.isAgg25 _) (X1.out.cell 32 _ (comL_at c B m d).1) ?_
  refine hK _ _ ?_
  clear hK K
  refine wpAny_ready (rs := [6]) (by kernel_rfl) (by simp) ?_
  refine (AllReady.cons rfl (fun K hK => ?_) AllReady.nil)
  go_simp
  refine hK _ _ ?_
  clear hK K
  refine wpAny_ready (rs := [7]) (by kernel_rfl) (by simp) ?_
  refine (AllReady.cons rfl (fun K hK => ?_) AllReady.nil)
  refine step_append_Q rfl (.const (.slice none 0 0)) (.tmp 9) 25 rfl v1.heap.size 24 (.agg zero32.toArray) 32 32 Tryz.underlying25 Tryz.infoIdz rfl (by decide) (.slice none 0 0) 0 [] rfl (RowQ.nil _ _ _ _) B q d (rowI (c.ps.take q)) rfl SQ.out (by have := Q6.out; omega) (by have := Q6.out; omega) (Nat.le_refl _) ?_
  intro v2 w2 hr2 hg2 _
  rw [Nat.zero_add, List.nil_append] at hr2
  obtain ⟨A2, c2, rfl, _, _⟩ := hr2.shape
  have R2 := Lib.hid hr2
  have B2 := Lib.hid (grown_nil hg2)
  have X2 := Lib.hid (X1.out.below B2.out)
  clear hr2 hg2
  refine hK _ _ ?_
  clear hK K
  rotate_left
  refine step_cellg (by rfl) 9 (.tmp 11) rfl ⟨g, 34, none⟩ rfl (.string nb) (Tryz.isAgg9 _) (by have := X1.out.cell 34 _ (comL_at c B m d).2.2; rw [HNB.out] at this; exact this) ?_
  refine hK _ _ ?_
  clear hK K
  refine wpAny_ready (rs := [1, 4]) (by kernel_rfl) (by simp) ?_
  refine (AllReady.cons rfl (fun K hK => ?_) (AllReady.cons rfl (fun K hK => ?_) AllReady.nil))
  refine step_cellg (by rfl) 25 (.tmp 3) rfl ⟨g, 32, none⟩ rfl (.slice B m d) (Tryz.isAgg25 _) (X1.out.cell 32 _ (comL_at c B m d).1) ?_
  refine hK _ _ ?_
  clear hK K
  refine wpAny_ready (rs := [4]) (by kernel_rfl) (by simp) ?_
  refine (AllReady.cons rfl (fun K hK => ?_) AllReady.nil)
  go_simp
  refine hK _ _ ?_
  clear hK K
  refine wpAny_ready (rs := [5]) (by kernel_rfl) (by simp) ?_
  refine (AllReady.cons rfl (fun K hK => ?_) AllReady.nil)
  go_simp
  refine hK _ _ ?_
  clear hK K
  refine wpAny_ready (rs := [6]) (by kernel_rfl) (by simp) ?_
  refine (AllReady.cons rfl (fun K hK => ?_) AllReady.nil)
  go_simp
  refine hK _ _ ?_
  clear hK K
  refine wpAny_ready (rs := [7]) (by kernel_rfl) (by simp) ?_
  refine (AllReady.cons rfl (fun K hK => ?_) AllReady.nil)
  refine step_append_Q rfl (.const (.slice none 0 0)) (.tmp 9) 25 rfl v1.heap.size 24 (.agg zero32.toArray) 32 32 Tryz.underlying25 Tryz.infoIdz rfl (by decide) (.slice none 0 0) 0 [] rfl (RowQ.nil _ _ _ _) B q d (rowI (c.ps.take q)) rfl SQ.out (by have := Q6.out; omega) (by have := Q6.out; omega) (Nat.le_refl _) ?_
  intro v2 w2 hr2 hg2 _
  rw [Nat.zero_add, List.nil_append] at hr2
  obtain ⟨A2, c2, rfl, _, _⟩ := hr2.shape
  have R2 := Lib.hid hr2
  have B2 := Lib.hid (grown_nil hg2)
  have X2 := Lib.hid (X1.out.below B2.out)
  clear hr2 hg2
  refine hK _ _ ?_
  clear hK K
  rotate_left
  go_simp
  refine hK _ _ ?_
  clear hK K
  refine wpAny_ready (rs := [1, 5]) (by kernel_rfl) (by simp) ?_
  refine (AllReady.cons rfl (fun K hK => ?_) (AllReady.cons rfl (fun K hK => ?_) AllReady.nil))
  refine step_cellg (by rfl) 25 (.tmp 3) rfl ⟨g, 32, none⟩ rfl (.slice B m d) (Tryz.isAgg25 _) (X1.out.cell 32 _ (comL_at c B m d).1) ?_
  refine hK _ _ ?_
  clear hK K
  refine wpAny_ready (rs := [5]) (by kernel_rfl) (by simp) ?_
  refine (AllReady.cons rfl (fun K hK => ?_) AllReady.nil)
  go_simp
  refine hK _ _ ?_
  clear hK K
  refine wpAny_ready (rs := [6]) (by kernel_rfl) (by simp) ?_
  refine (AllReady.cons rfl (fun K hK => ?_) AllReady.nil)
  go_simp
  refine hK _ _ ?_
  clear hK K
  refine wpAny_ready (rs := [7]) (by kernel_rfl) (by simp) ?_
  refine (AllReady.cons rfl (fun K hK => ?_) AllReady.nil)
  refine step_append_Q rfl (.const (.slice none 0 0)) (.tmp 9) 25 rfl v1.heap.size 24 (.agg zero32.toArray) 32 32 Tryz.underlying25 Tryz.infoIdz rfl (by decide) (.slice none 0 0) 0 [] rfl (RowQ.nil _ _ _ _) B q d (rowI (c.ps.take q)) rfl SQ.out (by have := Q6.out; omega) (by have := Q6.out; omega) (Nat.le_refl _) ?_
  intro v2 w2 hr2 hg2 _
  rw [Nat.zero_add, List.nil_append] at hr2
  obtain ⟨A2, c2, rfl, _, _⟩ := hr2.shape
  have R2 := Lib.hid hr2
  have B2 := Lib.hid (grown_nil hg2)
  have X2 := Lib.hid (X1.out.below B2.out)
  clear hr2 hg2
  refine hK _ _ ?_
  clear hK K
  rotate_left
  go_simp
  refine hK _ _ ?_
  clear hK K
  refine wpAny_ready (rs := [1]) (by kernel_rfl) (by simp) ?_
  refine (AllReady.cons rfl (fun K hK => ?_) AllReady.nil)
  refine step_cellg (by rfl) 25 (.tmp 3) rfl ⟨g, 32, none⟩ rfl (.slice B m d) (Tryz.isAgg25 _) (X1.out.cell 32 _ (comL_at c B m d).1) ?_
  refine hK _ _ ?_
  clear hK K
  refine wpAny_ready (rs := [6]) (by kernel_rfl) (by simp) ?_
  refine (AllReady.cons rfl (fun K hK => ?_) AllReady.nil)
  go_simp
  refine hK _ _ ?_
  clear hK K
  refine wpAny_ready (rs := [7]) (by kernel_rfl) (by simp) ?_
  refine (AllReady.cons rfl (fun K hK => ?_) AllReady.nil)
  refine step_append_Q rfl (.const (.slice none 0 0)) (.tmp 9) 25 rfl v1.heap.size 24 (.agg zero32.toArray) 32 32 Tryz.underlying25 Tryz.infoIdz rfl (by decide) (.slice none 0 0) 0 [] rfl (RowQ.nil _ _ _ _) B q d (rowI (c.ps.take q)) rfl SQ.out (by have := Q6.out; omega) (by have := Q6.out; omega) (Nat.le_refl _) ?_
  intro v2 w2 hr2 hg2 _
  rw [Nat.zero_add, List.nil_append] at hr2
  obtain ⟨A2, c2, rfl, _, _⟩ := hr2.shape
  have R2 := Lib.hid hr2
  have B2 := Lib.hid (grown_nil hg2)
  have X2 := Lib.hid (X1.out.below B2.out)
  clear hr2 hg2
  refine hK _ _ ?_
  clear hK K
  rotate_left
  refine step_cellg (by rfl) 9 (.tmp 11) rfl ⟨g, 34, none⟩ rfl (.string nb) (Tryz.isAgg9 _) (by have := X1.out.cell 34 _ (comL_at c B m d).2.2; rw [HNB.out] at this; exact this) ?_
  refine hK _ _ ?_
  clear hK K
  refine wpAny_ready (rs := [1, 3]) (by kernel_rfl) (by simp) ?_
  refine (AllReady.cons rfl (fun K hK => ?_) (AllReady.cons rfl (fun K hK => ?_) AllReady.nil))
  refine step_cellg (by rfl) 25 (.tmp 3) rfl ⟨g, 32, none⟩ rfl (.slice B m d) (Tryz.isAgg25 _) (X1.out.cell 32 _ (comL_at c B m d).1) ?_
  refine hK _ _ ?_
  clear hK K
  refine wpAny_ready (rs := [3]) (by kernel_rfl) (by simp) ?_
  refine (AllReady.cons rfl (fun K hK => ?_) AllReady.nil)
  refine step_cellg (by rfl) 25 (.tmp 5) rfl ⟨g, 32, none⟩ rfl (.slice B m d) (Tryz.isAgg25 _) (X1.out.cell 32 _ (comL_at c B m d).1) ?_
  refine hK _ _ ?_
  clear hK K
  refine wpAny_ready (rs := [4]) (by kernel_rfl) (by simp) ?_
  refine (AllReady.cons rfl (fun K hK => ?_) AllReady.nil)
  go_simp
  refine hK _ _ ?_
  clear hK K
  refine wpAny_ready (rs := [5]) (by kernel_rfl) (by simp) ?_
  refine (AllReady.cons rfl (fun K hK => ?_) AllReady.nil)
  go_simp
  refine hK _ _ ?_
  clear hK K
  refine wpAny_ready (rs := [6]) (by kernel_rfl) (by simp) ?_
  refine (AllReady.cons rfl (fun K hK => ?_) AllReady.nil)
  go_simp
  refine hK _ _ ?_
  clear hK K
  refine wpAny_ready (rs := [7]) (by kernel_rfl) (by simp) ?_
  refine (AllReady.cons rfl (fun K hK => ?_) AllReady.nil)
  refine step_append_Q rfl (.const (.slice none 0 0)) (.tmp 9) 25 rfl v1.heap.size 24 (.agg zero32.toArray) 32 32 Tryz.underlying25 Tryz.infoIdz rfl (by decide) (.slice none 0 0) 0 [] rfl (RowQ.nil _ _ _ _) B q d (rowI (c.ps.take q)) rfl SQ.out (by have := Q6.out; omega) (by have := Q6.out; omega) (Nat.le_refl _) ?_
  intro v2 w2 hr2 hg2 _
  rw [Nat.zero_add, List.nil_append] at hr2
  obtain ⟨A2, c2, rfl, _, _⟩ := hr2.shape
  have R2 := Lib.hid hr2
  have B2 := Lib.hid (grown_nil hg2)
  have X2 := Lib.hid (X1.out.below B2.out)
  clear hr2 hg2
  refine hK _ _ ?_
  clear hK K
  rotate_left
  refine step_cellg (by rfl) 25 (.tmp 5) rfl ⟨g, 32, none⟩ rfl (.slice B m d) (Tryz.isAgg25 _) (X1.out.cell 32 _ (comL_at c B m d).1) ?_
  refine hK _ _ ?_
  clear hK K
  refine wpAny_ready (rs := [1, 4]) (by kernel_rfl) (by simp) ?_
  refine (AllReady.cons rfl (fun K hK => ?_) (AllReady.cons rfl (fun K hK => ?_) AllReady.nil))
  refine step_cellg (by rfl) 25 (.tmp 3) rfl ⟨g, 32, none⟩ rfl (.slice B m d) (Tryz.isAgg25 _) (X1.out.cell 32 _ (comL_at c B m d).1) ?_
  refine hK _ _ ?_
  clear hK K
  refine wpAny_ready (rs := [4]) (by kernel_rfl) (by simp) ?_
  refine (AllReady.cons rfl (fun K hK => ?_) AllReady.nil)
  go_simp
  refine hK _ _ ?_
  clear hK K
  refine wpAny_ready (rs := [5]) (by kernel_rfl) (by simp) ?_
  refine (AllReady.cons rfl (fun K hK => ?_) AllReady.nil)
  go_simp
  refine hK _ _ ?_
  clear hK K
  refine wpAny_ready (rs := [6]) (by kernel_rfl) (by simp) ?_
  refine (AllReady.cons rfl (fun K hK => ?_) AllReady.nil)
  go_simp
  refine hK _ _ ?_
  clear hK K
  refine wpAny_ready (rs := [7]) (by kernel_rfl) (by simp) ?_
  refine (AllReady.cons rfl (fun K hK => ?_) AllReady.nil)
  refine step_append_Q rfl (.const (.slice none 0 0)) (.tmp 9) 25 rfl v1.heap.size 24 (.agg zero32.toArray) 32 32 Tryz.underlying25 Tryz.infoIdz rfl (by decide) (.slice none 0 0) 0 [] rfl (RowQ.nil _ _ _ _) B q d (rowI (c.ps.take q)) rfl SQ.out (by have := Q6.out; omega) (by have := Q6.out; omega) (Nat.le_refl _) ?_
  intro v2 w2 hr2 hg2 _
  rw [Nat.zero_add, List.nil_append] at hr2
  obtain ⟨A2, c2, rfl, _, _⟩ := hr2.shape
  have R2 := Lib.hid hr2
  have B2 := Lib.hid (grown_nil hg2)
  have X2 := Lib.hid (X1.out.below B2.out)
  clear hr2 hg2
  refine hK _ _ ?_
  clear hK K
  rotate_left
  go_simp
  refine hK _ _ ?_
  clear hK K
  refine wpAny_ready (rs := [1, 5]) (by kernel_rfl) (by simp) ?_
  refine (AllReady.cons rfl (fun K hK => ?_) (AllReady.cons rfl (fun K hK => ?_) AllReady.nil))
  refine step_cellg (by rfl) 25 (.tmp 3) rfl ⟨g, 32, none⟩ rfl (.slice B m d) (Tryz.isAgg25 _) (X1.out.cell 32 _ (comL_at c B m d).1) ?_
  refine hK _ _ ?_
  clear hK K
  refine wpAny_ready (rs := [5]) (by kernel_rfl) (by simp) ?_
  refine (AllReady.cons rfl (fun K hK => ?_) AllReady.nil)
  go_simp
  refine hK _ _ ?_
  clear hK K
  refine wpAny_ready (rs := [6]) (by kernel_rfl) (by simp) ?_
  refine (AllReady.cons rfl (fun K hK => ?_) AllReady.nil)
  go_simp
  refine hK _ _ ?_
  clear hK K
  refine wpAny_ready (rs := [7]) (by kernel_rfl) (by simp) ?_
  refine (AllReady.cons rfl (fun K hK => ?_) AllReady.nil)
  refine step_append_Q rfl (.const (.slice none 0 0)) (.tmp 9) 25 rfl v1.heap.size 24 (.agg zero32.toArray) 32 32 Tryz.underlying25 Tryz.infoIdz rfl (by decide) (.slice none 0 0) 0 [] rfl (RowQ.nil _ _ _ _) B q d (rowI (c.ps.take q)) rfl SQ.out (by have := Q6.out; omega) (by have := Q6.out; omega) (Nat.le_refl _) ?_
  intro v2 w2 hr2 hg2 _
  rw [Nat.zero_add, List.nil_append] at hr2
  obtain ⟨A2, c2, rfl, _, _⟩ := hr2.shape
  have R2 := Lib.hid hr2
  have B2 := Lib.hid (grown_nil hg2)
  have X2 := Lib.hid (X1.out.below B2.out)
  clear hr2 hg2
  refine hK _ _ ?_
  clear hK K
  rotate_left
  go_simp
  refine hK _ _ ?_
  clear hK K
  refine wpAny_ready (rs := [1]) (by kernel_rfl) (by simp) ?_
  refine (AllReady.cons rfl (fun K hK => ?_) AllReady.nil)
  refine step_cellg (by rfl) 25 (.tmp 3) rfl ⟨g, 32, none⟩ rfl (.slice B m d) (Tryz.isAgg25 _) (X1.out.cell 32 _ (comL_at c B m d).1) ?_
  refine hK _ _ ?_
  clear hK K
  refine wpAny_ready (rs := [6]) (by kernel_rfl) (by simp) ?_
  refine (AllReady.cons rfl (fun K hK => ?_) AllReady.nil)
  go_simp
  refine hK _ _ ?_
  clear hK K
  refine wpAny_ready (rs := [7]) (by kernel_rfl) (by simp) ?_
  refine (AllReady.cons rfl (fun K hK => ?_) AllReady.nil)
  refine step_append_Q rfl (.const (.slice none 0 0)) (.tmp 9) 25 rfl v1.heap.size 24 (.agg zero32.toArray) 32 32 Tryz.underlying25 Tryz.infoIdz rfl (by decide) (.slice none 0 0) 0 [] rfl (RowQ.nil _ _ _ _) B q d (rowI (c.ps.take q)) rfl SQ.out (by have := Q6.out; omega) (by have := Q6.out; omega) (Nat.le_refl _) ?_
  intro v2 w2 hr2 hg2 _
  rw [Nat.zero_add, List.nil_append] at hr2
  obtain ⟨A2, c2, rfl, _, _⟩ := hr2.shape
  have R2 := Lib.hid hr2
  have B2 := Lib.hid (grown_nil hg2)
  have X2 := Lib.hid (X1.out.below B2.out)
  clear hr2 hg2
  refine hK _ _ ?_
  clear hK K
  rotate_left
  all_goals
    refine wpAny_bare [11] 4 (by rfl) (by kernel_rfl) (fun _ _ _ d _ h => by cases d <;> exact h) ?_
    simp only [bareO, List.filterMap_cons, List.filterMap_nil, List.getElem?_toArray, List.getElem?_cons_succ, List.getElem?_cons_zero]
    repeat (first | quiet_step (fail) | go_big_quiet_step (fail))
    refine wpQuiet_nil ?_
    refine wpAny_ready (rs := [10]) (by kernel_rfl) (by simp) ?_
    refine (AllReady.cons rfl (fun K hK => ?_) AllReady.nil)
    refine step_callC (by rfl) 17 #[.string nb, .int .i64 110] (by first | rfl | (simp [execOp, go_sem]; done) | (unfold execOp; go_simp; done) | (unfold execOp; simp; rfl)) (.string tb) (CT.out _) ?_
    refine hK _ _ ?_
    clear hK K
    refine wpAny_head (C := fun w' => w' = w2) 12 12 rfl (by kernel_rfl) ?_ (by rfl)
    refine wpQuiet_nil ?_
    rintro w3 hw3
    replace hw3 := hw3.symm
    subst hw3
    have hc32 := X2.out.cell 32 _ (comL_at c B m d).1
    have hf32 := X2.out.frozen 32
    have hc34 := X2.out.cell 34 _ (comL_at c B m d).2.2
    have hf34 := X2.out.frozen 34
    go_upto_region 2 with fail
    clear hc32 hf32 hc34 hf34
    obtain ⟨w4, hw4⟩ : ∃ w4, w4 = (w2.setCell ⟨g, 32, none⟩ (.slice A2 q c2)).setCell ⟨g, 34, none⟩ (.string tb) := ⟨_, rfl⟩
    rw [← hw4]
    have X4 : Hid (Blk w4 g 28 (comL ⟨c.tree, c.ps.take q, c.wh, c.note.take 110⟩ A2 q c2)) := Lib.hid (by
      rw [hw4]
      have := (X2.out.setCell 32 (.slice A2 q c2)).setCell 34 (.string tb)
      rw [comL_set32 c B A2 m d q c2 (c.ps.take q), comL_set34] at this
      have ht : tb.data.toList = c.note.take 110 := by rw [HTB.out]
      rw [ht] at this
      exact this)
    have hgl : g < v1.heap.size := X1.out.lt
    have hg2 : g + 1 < v1.heap.size := Y1.out.lt
    have Y4 : Hid (Blk w4 (g + 1) 28 zeroC) := Lib.hid (by
      rw [hw4]
      exact ((Y1.out.below B2.out).far (by show g + 1 ≠ g; omega) _).far (by show g + 1 ≠ g; omega) _)
    have R4 : Hid (RowQ w4 W.heap.size 24 32 (.slice A2 q c2) q (rowI (c.ps.take q))) := Lib.hid (by
      rw [hw4]
      have hne : (Value.slice A2 q c2).ownBlock ≠ some g := fun e => by have := (R2.out.lt g e).1; omega
      exact ((R2.out.far hne _).far hne _).mono L1.out.size)
    have L4 : Hid (Below W.heap.size W w4) := Lib.hid (by
      rw [hw4]
      exact below_setCell' (below_setCell' (L1.out.trans (B2.out.mono L1.out.size)) g 32 (by rw [HGG.out]; exact Nat.le_refl _) _) g 34 (by rw [HGG.out]; exact Nat.le_refl _) _)
    have HG1 := Lib.hid (show W.heap.size ≤ g + 1 from by rw [HGG.out]; exact Nat.le_succ _)
    have HNE := Lib.hid (show (Value.slice A2 q c2).ownBlock ≠ some (g + 1) from fun e => by have := (R2.out.lt (g + 1) e).1; omega)
    clear hw4 hgl hg2 R2 X2 B2 X1 Y1 L1 SQ CT
    go_wp2_with (first
      | (refine wpl_loadS rfl 28 (.tmp 1) rfl ⟨g, 0, none⟩ rfl (comL ⟨c.tree, c.ps.take q, c.wh, c.note.take 110⟩ A2 q c2) Tryz.isAgg28 (infoC _ _ _ _) (fun j u hu => by rw [addr_row _ rfl, Nat.zero_add]; exact X4.out.cell j u hu) ?_)
      | (refine wpl_storeS rfl 28 (.tmp 2) _ rfl (g + 1) (comL ⟨c.tree, c.ps.take q, c.wh, c.note.take 110⟩ A2 q c2) rfl rfl 28 zeroC Y4.out (infoC _ _ _ _) (by rw [comL_len]; rfl) (comL_one _ _ _ _) ?_))
    refine bodyPost_ret (res_rowS1 rfl _ _ (g + 1) 28 (comL ⟨c.tree, c.ps.take q, c.wh, c.note.take 110⟩ A2 q c2) _ rfl (Y4.out.row _) Tryz.underlying28 rfl (infoC _ _ _ _)) rfl ?_
    have hne : (Value.slice A2 q c2).ownBlock ≠ some (g + 1) := fun e => HNE.out e
    exact ⟨A2, c2, rfl, R4.out.rowFar hne _, below_setRow' L4.out HG1.out _⟩
end Go.Proofs.YtpbnigpdpkfpaaaGreatDoor
namespace Go.Proofs.YtpbnigpdpkfpaaaGreatDoor
open Go.RowKit
theorem ba_back (s : ByteArray) (l : List UInt8) (h : l = s.data.toList) : s = ⟨l.toArray⟩ := ba_ext (by rw [h])
set_option maxRecDepth 20000 in
set_option maxHeartbeats 16000000 in
theorem commitGet_any (W : World) (s : ByteArray) (l : List UInt8) (hl : l = s.data.toList) (hs : s.size < 4294967281) (hG : Gl W) (hE : Ge W) : Calls Tryz.prog 61 #[.string s] W (GetCPost W l) := by
  have zI := zI_eq
  -- the world behind the result's variable
  have r0 := Blk.new W 28 zeroC
  have l0 := (Below.refl W.heap.size W).alloc (Nat.le_refl _) (.cells zeroC.toArray 28)
  obtain ⟨w0, hw0⟩ : ∃ w0, w0 = W.alloc (.cells zeroC.toArray 28) := ⟨_, rfl⟩
  rw [← hw0] at r0 l0
  obtain ⟨mx, hmx⟩ := (hG.below l0).mlen
  have cc := Tryz.strings_Cut s ⟨#[10, 10]⟩ mx w0 hs hmx
  rw [← hl] at cc
  have e2 : (⟨#[10, 10]⟩ : ByteArray).data.toList = [10, 10] := rfl
  rw [e2] at cc
  have hpar : parseC l = ((Lib.split (Lib.cut l [10, 10]).1 [10]).drop 1).foldl stepC ⟨(namedV ((Lib.split (Lib.cut l [10, 10]).1 [10]).headD []) treeW).1, [], 0, (Lib.cut l [10, 10]).2.1⟩ := rfl
  have hls : l.length = s.size := by rw [hl, ← ba_size]
  have hh1 : (Lib.cut l [10, 10]).1.length ≤ l.length := by
    unfold Lib.cut
    split
    · rw [List.length_take]; omega
    · exact Nat.le_refl _
  have hh2 : (Lib.cut l [10, 10]).2.1.length ≤ l.length := by
    unfold Lib.cut
    split
    · rw [List.length_drop]; omega
    · exact Nat.zero_le _
  obtain ⟨hd, hhd⟩ : ∃ hd : ByteArray, hd = ⟨(Lib.cut l [10, 10]).1.toArray⟩ := ⟨_, rfl⟩
  obtain ⟨nt, hnt⟩ : ∃ nt : ByteArray, nt = ⟨(Lib.cut l [10, 10]).2.1.toArray⟩ := ⟨_, rfl⟩
  have hdd : hd.data.toList = (Lib.cut l [10, 10]).1 := by rw [hhd]
  have ntd : nt.data.toList = (Lib.cut l [10, 10]).2.1 := by rw [hnt]
  rw [← hhd, ← hnt] at cc
  rw [← hdd, ← ntd] at hpar
  have hdz : hd.size < 4294967281 := by rw [ba_size, hdd]; omega
  have ntz : nt.size < 4294967281 := by rw [ba_size, ntd]; omega
  generalize (Lib.cut l [10, 10]).2.2 = cb at cc
  have CC := Lib.hid cc
  have cS := fun w (hw : Gl w) => split_any w hd 10 hdz hw
  have hL0 : (Lib.split hd.data.toList [10]).length = Lib.countB hd ⟨#[10]⟩ + 1 := by
    have := congrArg List.length (splitB_Ss hd 10)
    have hlen := Lib.splitB_all ⟨#[10]⟩ (Nat.le_refl 1) 0 _ hd rfl
    simpa [Ss, hlen] using this.symm
  have hcl := Lib.countB_le ⟨#[10]⟩ (Nat.le_refl 1) hd.size hd (Nat.le_refl _)
  obtain ⟨L, hL⟩ : ∃ L, L = Lib.split hd.data.toList [10] := ⟨_, rfl⟩
  have hsh : ∀ x ∈ L, x.length < 4294967281 := fun x hx => by
    rw [hL] at hx
    have := splitL_short _ _ x hx
    rw [← ba_size] at this
    omega
  rw [← hL] at hpar hL0
  simp only [← hL] at cS
  have HP := Lib.hid hpar
  have HG := Lib.hid (hG.below l0)
  have HE := Lib.hid (hE.below l0)
  have R0 := Lib.hid r0
  have L0 := Lib.hid l0
  have CS := Lib.hid cS
  have n1 : 1 ≤ L.length := by omega
  have nmax : L.length ≤ 4294967281 := by omega
  have NM := Lib.hid nmax
  have N1 := Lib.hid n1
  have HL := Lib.hid hl
  have SZ := Lib.hid hs
  have SH := Lib.hid hsh
  have NTZ := Lib.hid ntz
  clear hsh hl hs hG hE r0 l0 cc e2 hpar hls hh1 hh2 hhd hnt hdd hdz ntz cS hL0 hcl hL hmx
  obtain ⟨n, hn⟩ : ∃ n, n = L.length := ⟨_, rfl⟩
  go_enter Tryz.func61, Tryz.ntmps61
  go_upto_region 1 with fail
  change Code.wp _ _ _ _ (W.alloc (.cells zeroC.toArray 28))
  rw [← hw0]
  clear hw0
  obtain ⟨g0, hg0⟩ : ∃ g0, g0 = W.heap.size := ⟨_, rfl⟩
  rw [← hg0] at R0
  rw [← hg0]
  have G0 := Lib.hid hg0
  clear hg0 hn
  go_upto_region 3 with (first
    | (go_at_call 113; refine CC.out.mono ?_; rintro e w1 ⟨rfl, q, hw⟩; have B1 : Hid (Below w0.heap.size w0 w1) := Lib.hid (by rw [hw]; exact below_drewN' (Below.refl _ _) q); clear hw)
    | (go_at_call 114; refine (CS.out _ (HG.out.below B1.out)).mono ?_; rintro e V ⟨L', hLL, he, hsr, hb, h9⟩; rw [hLL] at he hsr; subst he; clear hLL h9; have SR := Lib.hid hsr; have BV := Lib.hid (B1.out.trans (hb.mono B1.out.size)); clear hsr hb))
  clear CC CS B1
  generalize w1.heap.size = gl at SR ⊢
  have VG := Lib.hid (HG.out.below BV.out)
  have VE : Hid (Ge V) := Lib.hid (HE.out.below BV.out)
  have VR := Lib.hid (R0.out.below BV.out)
  have VL := Lib.hid (L0.out.trans (BV.out.mono L0.out.size))
  clear HG HE R0 L0 BV
  -- the commit's variable
  obtain ⟨c0, hc0⟩ : ∃ c0 : Com, c0 = ⟨default, [], 0, nt.data.toList⟩ := ⟨_, rfl⟩
  have bu := built_noteC nt
  rw [← hc0] at bu
  have i0 := infoC c0 none 0 0
  have p0 := comL_one c0 none 0 0
  have hps0 : c0.ps = [] := by rw [hc0]
  have I0 : ComIn V ((V.alloc (.cells zeroC.toArray 28)).setRow V.heap.size (comL c0 none 0 0).toArray) c0 := by
    refine ⟨⟨none, 0, ?_, ?_, by simp [Value.ownBlock]⟩, below_setRow' ((Below.refl _ _).alloc (Nat.le_refl _) _) (Nat.le_refl _) _, by rw [hc0]; exact Nat.zero_lt_succ _⟩
    · rw [hps0]
      exact (Blk.new V 28 zeroC).row _
    · rw [hps0]
      exact RowQ.nil _ _ _ _
  have BU := Lib.hid bu
  have IC0 := Lib.hid i0
  have PC0 := Lib.hid p0
  have LC0 := Lib.hid (comL_len c0 none 0 0)
  have HC0 := Lib.hid hc0
  clear bu i0 p0 hps0 hc0
  obtain ⟨cs0, hcs0⟩ : ∃ cs0, cs0 = comL c0 none 0 0 := ⟨_, rfl⟩
  rw [← hcs0] at BU IC0 PC0 LC0 I0
  clear hcs0
  go_upto_region 4 with (first
    | (refine wpl_buildP rfl 28 _ rfl cs0 BU.out ?_)
    | (refine wpl_storeS rfl 28 (.tmp 8) _ rfl V.heap.size cs0 rfl rfl 28 zeroC (Blk.new V _ _) IC0.out (by rw [LC0.out]; rfl) PC0.out ?_))
  change Code.wp _ _ _ _ ((V.alloc (.cells zeroC.toArray 28)).setRow V.heap.size cs0.toArray)
  have KI := Lib.hid I0
  generalize (V.alloc (.cells zeroC.toArray 28)).setRow V.heap.size cs0.toArray = w3 at KI ⊢
  clear I0 BU IC0 PC0 LC0
  -- the first line
  obtain ⟨l0b, hl0b⟩ : ∃ l0b : ByteArray, l0b = ⟨(L.headD []).toArray⟩ := ⟨_, rfl⟩
  have q0 : w3.cell? ⟨gl, 0, none⟩ = some (.string l0b) := by
    have hsr := SR.out.far (w' := w3) fun ad e hm => by
      have h5 := src_lt SR.out (by decide) ad e hm
      exact KI.out.low.block _ h5
    obtain ⟨ad, e, hx⟩ := hsr.2.1 (by have := N1.out; omega)
    obtain rfl := Option.some.inj e
    refine hx 0 _ ?_
    rw [hl0b]
    have hn1 := N1.out
    cases L with
    | nil => simp at hn1
    | cons x r => rfl
  have cN := fun w => named_any w l0b ⟨#[116, 114, 101, 101, 32]⟩ (L.headD []) treeW (by rw [hl0b]) rfl
  obtain ⟨x0, hx0⟩ : ∃ x0, x0 = (namedV (L.headD []) treeW).1 := ⟨_, rfl⟩
  rw [← hx0] at cN
  have HP2 := HP.out
  rw [← hx0] at HP2
  generalize (namedV (L.headD []) treeW).2 = b0 at cN
  have CN := Lib.hid cN
  have IX0 := Lib.hid (infoId x0)
  have PX0 := Lib.hid (encI_one x0)
  have LX0 := Lib.hid (encI_len x0)
  have hc1 : (⟨x0, [], 0, nt.data.toList⟩ : Com) = { c0 with tree := x0 } := by rw [HC0.out]
  rw [hc1] at HP2
  have HPP := Lib.hid HP2
  have l1 : (0 : Int) < (L.length : Int) := by have := N1.out; omega
  clear HP HP2 hx0 cN hl0b hc1
  go_upto_region 5 with (first
    | (go_at_call 115; refine (CN.out _).mono ?_; rintro e w4 ⟨rfl, h4⟩; have I4 := Lib.hid (KI.out.below h4); clear h4)
    | (refine wpl_store_mid rfl 24 (.tmp 34) _ rfl V.heap.size 0 (encI x0) rfl rfl (by rw [LX0.out]; exact I4.out.there) IX0.out PX0.out ?_))
  have I5 := Lib.hid (I4.out.name x0)
  clear I4 KI CN IX0 PX0 LX0 q0
  generalize w4.setCells V.heap.size 0 (encI x0) = w5 at I5 ⊢
  obtain ⟨c1, hc1⟩ : ∃ c1 : Com, c1 = { c0 with tree := x0 } := ⟨_, rfl⟩
  have hcp : c1.ps = [] := by rw [hc1, HC0.out]
  have hcn : c1.note = nt.data.toList := by rw [hc1, HC0.out]
  rw [← hc1] at I5 HPP
  have rt := fun w => run_tailS w (some ⟨gl, 0, none⟩) L.length L.length N1.out (Nat.le_refl _)
  have ts := tail_src SR.out
  obtain ⟨A', hA'⟩ : ∃ A' : Option Addr, A' = if L.length = 1 then (some ⟨gl, 0, none⟩ : Option Addr) else (some (⟨gl, 0, none⟩ : Addr)).map (·.add 1) := ⟨_, rfl⟩
  rw [← hA'] at ts
  simp only [← hA'] at rt
  obtain ⟨n', hn'⟩ : ∃ n', n' = L.length - 1 := ⟨_, rfl⟩
  obtain ⟨T, hT⟩ : ∃ T, T = L.drop 1 := ⟨_, rfl⟩
  have hTl : T.length = n' := by rw [hT, hn']; simp
  rw [← hn', ← hT] at ts
  simp only [← hn'] at rt
  rw [← hT] at HPP
  have TSH : Hid (∀ x ∈ T, x.length < 4294967281) := Lib.hid fun x hx => SH.out x (by rw [hT] at hx; exact List.mem_of_mem_drop hx)
  have TS := Lib.hid ts
  have TL := Lib.hid hTl
  have NN := Lib.hid (show n' ≤ 4294967281 by have := NM.out; omega)
  have n9 : (n' : Int) ≤ 4294967281 := by have := NM.out; omega
  have CN1 := Lib.hid hcn
  have CP1 := Lib.hid hcp
  clear HC0 hc1 hcp hcn ts hA' hn' hT hTl SR NM SH
  go_wp2
  clear rt l1
  go_loopw [38] (fun i wr => ∃ (k : Nat) (c : Com), k ≤ n' ∧ i = .int .i64 k ∧ c = (T.take k).foldl stepC c1 ∧ c.ps.length ≤ k ∧ c.note = nt.data.toList ∧ ComIn V wr c) (fun i _ => n' - (intOf i).toNat)
  case atStart => exact ⟨0, c1, by omega, rfl, rfl, by rw [CP1.out]; exact Nat.le_refl _, CN1.out, I5.out⟩
  case round =>
    obtain ⟨k, c, hk, rfl, hcf, hps, hno, hI⟩ := hrel
    clear I5
    have KR := Lib.hid hI
    have HCF := Lib.hid hcf
    have HPS := Lib.hid hps
    have HNO := Lib.hid hno
    clear hI hcf hps hno
    by_cases hlt : k < n'
    · have k1 : (k : Int) < (n' : Int) := by omega
      obtain ⟨ll, hll⟩ : ∃ ll, ll = T.getD k [] := ⟨_, rfl⟩
      obtain ⟨lb, hlb⟩ : ∃ lb : ByteArray, lb = ⟨ll.toArray⟩ := ⟨_, rfl⟩
      have hmem : ll ∈ T := by rw [hll]; simp [List.getD_eq_getElem?_getD, show k < T.length by rw [TL.out]; exact hlt]
      have hllz : ll.length < 4294967281 := TSH.out _ hmem
      have hnx := foldl_next T k (by rw [TL.out]; exact hlt) c1 c HCF.out
      rw [← hll, stepC_eq] at hnx
      have hsr := TS.out.far (w' := wr) fun ad e hm => by
        have h5 := src_lt TS.out (by decide) ad e hm
        exact KR.out.low.block _ h5
      obtain ⟨ad, hA, hx⟩ := hsr.2.1 (by omega)
      subst hA
      have q : wr.cell? (ad.add k) = some (.string lb) := hx k _ (by
        rw [hlb, hll]
        simp [Ss, List.getD_eq_getElem?_getD, show k < T.length by rw [TL.out]; exact hlt])
      have cN := fun w => named_any w lb ⟨#[112, 97, 114, 101, 110, 116, 32]⟩ ll parW (by rw [hlb]) rfl
      obtain ⟨x1, hx1⟩ : ∃ x1, x1 = (namedV ll parW).1 := ⟨_, rfl⟩
      obtain ⟨b1, hb1⟩ : ∃ b1, b1 = (namedV ll parW).2 := ⟨_, rfl⟩
      rw [← hx1, ← hb1] at cN hnx
      have ck := fun w => Tryz.strings_CutPrefix lb ⟨#[119, 104, 101, 110, 32]⟩ w
      have e5 : (⟨#[119, 104, 101, 110, 32]⟩ : ByteArray).data.toList = whenW := rfl
      have elb : lb.data.toList = ll := by rw [hlb]
      rw [e5, elb] at ck
      have hp : Lib.hasPrefix ll whenW = whenW.isPrefixOf ll := rfl
      rw [hp] at ck
      obtain ⟨u, hu⟩ : ∃ u : ByteArray, u = ⟨(Lib.trimPrefix ll whenW).toArray⟩ := ⟨_, rfl⟩
      rw [← hu] at ck
      have hut : whenW.isPrefixOf ll = true → u.data.toList = ll.drop 5 := fun h => by
        rw [hu]
        show Lib.trimPrefix ll whenW = _
        unfold Lib.trimPrefix
        rw [hp, h, if_pos rfl]
        rfl
      have huz : u.size ≤ 140737488355328 := by
        rw [ba_size, hu]
        show (Lib.trimPrefix ll whenW).length ≤ _
        unfold Lib.trimPrefix
        split
        · rw [List.length_drop]; omega
        · omega
      generalize whenW.isPrefixOf ll = bw at ck hnx hut
      have CN := Lib.hid cN
      have CK := Lib.hid ck
      have NX := Lib.hid hnx
      have HUT := Lib.hid hut
      have HUZ := Lib.hid huz
      have IX := Lib.hid (infoId x1)
      have PX := Lib.hid (encI_one x1)
      have LX := Lib.hid (encI_len x1)
      have HLT := Lib.hid hlt
      clear hll hlb hmem hllz hnx hsr hx cN hx1 hb1 ck e5 elb hp hu hut huz hlt hk
      go_upto_region 9 with (first
        | (go_at_call 115; refine (CN.out _).mono ?_; rintro e w6 ⟨rfl, h6⟩; have J6 := Lib.hid (KR.out.below h6); clear h6)
        | (refine wpl_storeS rfl 24 (.tmp 11) _ rfl w6.heap.size (encI x1) rfl rfl 24 zero32 (Blk.new w6 _ _) IX.out (by rw [LX.out]; rfl) PX.out ?_))
      generalize hw7 : World.setRow _ _ _ = w7
      have E7 : Below w6.heap.size w6 w7 := by rw [← hw7]; exact below_setRow' ((Below.refl _ _).alloc (Nat.le_refl _) _) (Nat.le_refl _) _
      have K7 : Hid (Blk w7 w6.heap.size 24 (encI x1)) := Lib.hid (by rw [← hw7]; exact (Blk.new w6 24 zero32).row _)
      have J7 := Lib.hid (J6.out.below E7)
      clear hw7 E7 J6 CN q
      generalize w6.heap.size = g11 at K7 ⊢
      cases b1
      · have HB := Lib.hid (show (T.take (k + 1)).foldl stepC c1 = if bw = true then { c with wh := (wgetV (ll.drop 5)).1 } else c from NX.out)
        cases bw
        · have HC := Lib.hid (show (T.take (k + 1)).foldl stepC c1 = c from HB.out)
          clear HB NX
          go_wp2_with (go_at_call 116; refine (CK.out _).mono ?_; rintro e w' ⟨rfl, hw⟩; replace hw := hw.symm; subst hw)
          go_roundw
          case measure => simp [intOf]; have := HLT.out; omega
          case rel => exact ⟨k + 1, c, HLT.out, by go_num, HC.out.symm, Nat.le_succ_of_le HPS.out, HNO.out, J7.out⟩
        · have HC := Lib.hid (show (T.take (k + 1)).foldl stepC c1 = { c with wh := (wgetV (ll.drop 5)).1 } from HB.out)
          have cG := wget_any w7 u HUZ.out (VG.out.below J7.out.low) (VE.out.below J7.out.low)
          have hlt64 := wgetV_lt (ll.drop 5)
          unfold wgetT at cG
          rw [HUT.out rfl] at cG
          generalize (wgetV (ll.drop 5)).1 = fv at cG HC hlt64
          generalize (wgetV (ll.drop 5)).2 = fb at cG
          have CG := Lib.hid cG
          have H64 := Lib.hid hlt64
          clear HB NX cG hlt64
          go_wp2_with (first
            | (go_at_call 116; refine (CK.out _).mono ?_; rintro e w' ⟨rfl, hw⟩; replace hw := hw.symm; subst hw)
            | (go_at_call 117; refine CG.out.mono ?_; rintro e w8 ⟨rfl, h8⟩; have J8 := Lib.hid (J7.out.below h8); clear h8; obtain ⟨⟨v33, hc33⟩, hf33⟩ := J8.out.cell 33 (by decide); have st33 := run_storeF w8 _ fv v33 hc33 hf33))
          go_roundw
          case measure => simp [intOf]; have := HLT.out; omega
          case rel => exact ⟨k + 1, { c with wh := fv }, HLT.out, by go_num, HC.out.symm, Nat.le_succ_of_le HPS.out, HNO.out, J8.out.time fv H64.out⟩
      · have HC := Lib.hid (show (T.take (k + 1)).foldl stepC c1 = { c with ps := c.ps ++ [x1] } from NX.out)
        clear NX CK HUT HUZ
        obtain ⟨A1, d1, hbk, hrq, hne⟩ := J7.out.ex
        have BK := Lib.hid hbk
        have RQ := Lib.hid hrq
        have NE := Lib.hid hne
        have hc32 := hbk.cell 32 _ (comL_at c A1 c.ps.length d1).1
        have pz : c.ps.length ≤ 4294967281 := by have := HPS.out; have := NN.out; have := HLT.out; omega
        have PZ := Lib.hid pz
        clear hbk hrq hne pz
        go_wp2_with (first
          | (refine wpl_loadS rfl 24 (.tmp 11) rfl ⟨g11, 0, none⟩ rfl (encI x1) Tryz.isAgg24 IX.out (fun j u hu => by rw [addr_row _ rfl, Nat.zero_add]; exact K7.out.cell j u hu) ?_)
          | (refine wpl_buildE idtE rfl 25 24 1 _ rfl [x1] rfl rfl (.agg zero32.toArray) 32 Tryz.underlying25 Tryz.infoIdz (by decide) (by decide) ?_; have RQ3 := Lib.hid (RQ.out.alloc (.cells (idtE.row [x1]).toArray 24)); have BK3 := Lib.hid (BK.out.alloc (.cells (idtE.row [x1]).toArray 24)); have L3 := Lib.hid (J7.out.low.alloc J7.out.low.size (.cells (idtE.row [x1]).toArray 24)); have S3 := Lib.hid (row_src idtE w7 24 [x1]); generalize w7.heap.size = g12 at S3 ⊢; generalize World.alloc w7 (.cells (idtE.row [x1]).toArray 24) = w8 at RQ3 BK3 L3 S3 ⊢)
          | (at_builtin; refine wpl_append rfl (.tmp 49) (.tmp 51) 25 rfl V.heap.size 24 (.agg zero32.toArray) 32 32 Tryz.underlying25 Tryz.infoIdz rfl (by decide) (.slice A1 c.ps.length d1) c.ps.length (rowI c.ps) rfl RQ3.out (some ⟨g12, 0, none⟩) 1 1 (rowI [x1]) rfl S3.out (by have := PZ.out; omega) (by have := PZ.out; omega) L3.out.size ?_; intro v9 w9 hr9 hg9 ha9; obtain ⟨A9, d9, rfl, _, _⟩ := hr9.shape; have R9 := Lib.hid hr9; have B9 := Lib.hid (BK3.out.grown hg9 (fun e => NE.out e.symm)); have L9 := Lib.hid (L3.out.grown hg9 L3.out.size (fun k e => (RQ3.out.lt k e).1)); have NE9 : Hid ((Value.slice A9 (c.ps.length + 1) d9).ownBlock ≠ some V.heap.size) := Lib.hid (own_ne NE.out ha9 BK3.out.lt); have hc9 := B9.out.cell 32 _ (comL_at c A1 c.ps.length d1).1; have hf9 := B9.out.frozen 32; clear hr9 hg9 ha9))
        go_roundw
        case measure => simp [intOf]; have := HLT.out; omega
        case rel => exact ⟨k + 1, { c with ps := c.ps ++ [x1] }, HLT.out, by go_num, HC.out.symm, by have := HPS.out; simp; omega, HNO.out, ComIn.push B9.out R9.out NE9.out L9.out KR.out.bits⟩
    · have : k = n' := by omega
      subst this
      have hpc : parseC l = c := by
        rw [HPP.out, HCF.out, List.take_of_length_le (by rw [TL.out]; exact Nat.le_refl _)]
      have hget : getC l = if mayC c = true ∧ commitB c = l then some c else none := by unfold getC; rw [hpc]
      have GET := Lib.hid hget
      obtain ⟨A1, d1, hbk, hrq, hne⟩ := KR.out.ex
      obtain ⟨Ax, dx, e, hcd, hcm⟩ := hrq.shape
      injection e with _ _ e
      subst e
      have pz : c.ps.length ≤ 4294967281 := by have := HPS.out; have := NN.out; omega
      have hca : ComAt wr c A1 c.ps.length d1 := ⟨hrq.src (rowI_one _), hcd, hcm, KR.out.bits, by
        rw [HNO.out, ← ba_size]
        have := NTZ.out
        simp only [maxLen]
        omega⟩
      have cP := commitPut_any wr c A1 c.ps.length d1 hca (by omega) (VG.out.below KR.out.low)
      unfold putCV at cP
      have BK := Lib.hid hbk
      have RQ := Lib.hid hrq
      have NE := Lib.hid hne
      have IC := Lib.hid (infoC c A1 c.ps.length d1)
      have PC := Lib.hid (comL_one c A1 c.ps.length d1)
      have LC := Lib.hid (comL_len c A1 c.ps.length d1)
      have LW := Lib.hid KR.out.low
      have gz : g0 < V.heap.size := VR.out.lt
      have GZ := Lib.hid gz
      clear hpc hget hbk hrq hne hcd hcm pz hca HCF HPS HNO KR hlt hk TS TSH TL
      obtain ⟨cs, hcs⟩ : ∃ cs, cs = comL c A1 c.ps.length d1 := ⟨_, rfl⟩
      rw [← hcs] at cP BK IC PC LC
      have HCS := Lib.hid hcs
      clear hcs
      cases hm : mayC c
      · have HN : Hid (getC l = none) := Lib.hid (by rw [GET.out, if_neg (by rw [hm]; simp)])
        rw [hm] at cP
        have CPT := Lib.hid cP
        clear cP hm GET
        go_wp2_with (first
          | (refine wpl_loadS rfl 28 (.tmp 8) rfl ⟨V.heap.size, 0, none⟩ rfl cs Tryz.isAgg28 IC.out (fun j u hu => by rw [addr_row _ rfl, Nat.zero_add]; exact BK.out.cell j u hu) ?_)
          | (go_at_call 60; refine CPT.out.mono ?_; rintro e w10 ⟨rfl, h10⟩; have L10 := Lib.hid (LW.out.trans (h10.mono LW.out.size)); clear h10; have R10 := Lib.hid (VR.out.below L10.out))
          | (refine wpl_build rfl 28 _ rfl zeroC (by kernel_rfl) ?_)
          | (refine wpl_storeS rfl 28 (.tmp 2) _ rfl g0 zeroC rfl rfl 28 zeroC R10.out infoZC rfl (comL_one _ _ _ _) ?_))
        refine bodyPost_ret (res_rowS2 rfl _ _ g0 28 zeroC _ rfl (R10.out.row _) Tryz.underlying28 rfl infoZC) rfl ?_
        unfold GetCPost
        rw [HN.out]
        exact ⟨rfl, below_setRow' (VL.out.trans (L10.out.mono VL.out.size)) (by rw [G0.out]; exact Nat.le_refl _) _⟩
      · obtain ⟨fb, hfb⟩ : ∃ fb : ByteArray, fb = ⟨(commitB c).toArray⟩ := ⟨_, rfl⟩
        rw [hm] at cP
        simp only [cond_true] at cP
        rw [← hfb] at cP
        have CPT := Lib.hid cP
        clear cP
        by_cases hq : commitB c = l
        · have HN : Hid (getC l = some c) := Lib.hid (by rw [GET.out, if_pos ⟨hm, hq⟩])
          have hfs : fb = s := by rw [hfb, hq]; exact (ba_back s l HL.out).symm
          subst hfs
          clear hfb hq hm GET
          go_wp2_with (first
            | (refine wpl_loadS rfl 28 (.tmp 8) rfl ⟨V.heap.size, 0, none⟩ rfl cs Tryz.isAgg28 IC.out (fun j u hu => by rw [addr_row _ rfl, Nat.zero_add]; exact BK.out.cell j u hu) ?_)
            | (go_at_call 60; refine CPT.out.mono ?_; rintro e w10 ⟨rfl, h10⟩; have L10 := Lib.hid (LW.out.trans (h10.mono LW.out.size)); have R10 := Lib.hid (VR.out.below L10.out); have BK2 := Lib.hid (BK.out.below h10); have RQ2 := Lib.hid (RQ.out.below h10); clear h10)
            | (refine wpl_loadS rfl 28 (.tmp 8) rfl ⟨V.heap.size, 0, none⟩ rfl cs Tryz.isAgg28 IC.out (fun j u hu => by rw [addr_row _ rfl, Nat.zero_add]; exact BK2.out.cell j u hu) ?_)
            | (refine wpl_storeS rfl 28 (.tmp 2) _ rfl g0 cs rfl rfl 28 zeroC R10.out IC.out (by rw [LC.out]; rfl) PC.out ?_))
          refine bodyPost_ret (res_rowS2 rfl _ _ g0 28 cs _ rfl (R10.out.row _) Tryz.underlying28 rfl IC.out) rfl ?_
          unfold GetCPost
          rw [HN.out]
          refine ⟨A1, d1, by rw [HCS.out]; rfl, ?_, below_setRow' (VL.out.trans (L10.out.mono VL.out.size)) (by rw [G0.out]; exact Nat.le_refl _) _⟩
          exact (RQ2.out.rowFar (fun e => by have := (RQ2.out.lt _ e).1; have := GZ.out; omega) _).mono VL.out.size
        · have HN : Hid (getC l = none) := Lib.hid (by rw [GET.out, if_neg (fun h => hq h.2)])
          have hne1 : (fb.toList == s.toList) = false := by
            rw [ByteArray.toList_eq, ByteArray.toList_eq, hfb, ← HL.out]
            simpa using hq
          have hne2 : (fb.toList != s.toList) = true := by
            unfold bne
            rw [hne1]
            rfl
          clear hfb hq hm GET
          go_wp2_with (first
            | (refine wpl_loadS rfl 28 (.tmp 8) rfl ⟨V.heap.size, 0, none⟩ rfl cs Tryz.isAgg28 IC.out (fun j u hu => by rw [addr_row _ rfl, Nat.zero_add]; exact BK.out.cell j u hu) ?_)
            | (go_at_call 60; refine CPT.out.mono ?_; rintro e w10 ⟨rfl, h10⟩; have L10 := Lib.hid (LW.out.trans (h10.mono LW.out.size)); clear h10; have R10 := Lib.hid (VR.out.below L10.out))
            | (refine wpl_build rfl 28 _ rfl zeroC (by kernel_rfl) ?_)
            | (refine wpl_storeS rfl 28 (.tmp 2) _ rfl g0 zeroC rfl rfl 28 zeroC R10.out infoZC rfl (comL_one _ _ _ _) ?_))
          refine bodyPost_ret (res_rowS2 rfl _ _ g0 28 zeroC _ rfl (R10.out.row _) Tryz.underlying28 rfl infoZC) rfl ?_
          unfold GetCPost
          rw [HN.out]
          exact ⟨rfl, below_setRow' (VL.out.trans (L10.out.mono VL.out.size)) (by rw [G0.out]; exact Nat.le_refl _) _⟩
end Go.Proofs.YtpbnigpdpkfpaaaGreatDoor
namespace Go.Proofs.YtpbnigpdpkfpaaaGreatDoor
open Go.RowKit
/-- A commit of the time 5 and of a note. -/
def comN (l : List UInt8) : Com := ⟨default, [], 4617315517961601024, l⟩
end Go.Proofs.YtpbnigpdpkfpaaaGreatDoor
