/- tree.one: the first entry of bytes, and what is behind it. tree.Get: entries from bytes. -/
import Derived.Test.YtpbnigpdpkfpaaaGreatDoorP7x
import Derived.Test.YtpbnigpdpkfpaaaGreatDoorP4x
import Derived.Test.YtpbnigpdpkfpaaaGreatDoorAs
import Derived.Test.YtpbnigpdpkfpaaaGreatDoorSh
namespace Go.Proofs.YtpbnigpdpkfpaaaGreatDoor
open Go.RowKit
/-- What is told of the first entry. -/
def oneV (l : List UInt8) : Value := match oneT l with
  | some (e, r) => .tuple #[.agg (encE e).toArray, .string ⟨r.toArray⟩, .bool true]
  | none => .tuple #[.agg zeroE.toArray, .string ⟨#[]⟩, .bool false]
theorem oneT_neither {l : List UInt8} (h1 : Lib.hasPrefix l [100, 32] = false) (h2 : Lib.hasPrefix l [102, 32] = false) : oneT l = none := by
  match l with
  | [] => rfl
  | [_] => rfl
  | c :: d :: r =>
    rw [oneT, if_neg]
    rintro ⟨rfl, rfl | rfl, _⟩
    · simp [Lib.hasPrefix, List.isPrefixOf] at h1
    · simp [Lib.hasPrefix, List.isPrefixOf] at h2
theorem prefix_two {l : List UInt8} {c : UInt8} (h : Lib.hasPrefix l [c, 32] = true) : ∃ r, l = c :: 32 :: r := by
  unfold Lib.hasPrefix at h
  rw [List.isPrefixOf_iff_prefix] at h
  obtain ⟨t, rfl⟩ := h
  exact ⟨t, rfl⟩
/-- The name behind the first nought. -/
def idAt (r : List UInt8) : Idt := ⟨((r.drop (nmLen r + 1)).take 32 ++ List.replicate 32 0).take 32, by simp⟩
theorem oneT_at (b : Bool) (r : List UInt8) : oneT ((if b then 100 else 102) :: 32 :: r) = if nmLen r + 33 ≤ r.length then
    some (⟨r.take (nmLen r), b, idAt r⟩, r.drop (nmLen r + 33)) else none := by
  rw [oneT]
  cases b
  · by_cases h : nmLen r + 33 ≤ r.length
    · rw [if_pos h, if_pos ⟨rfl, .inr rfl, h⟩]
      rfl
    · rw [if_neg h, if_neg (fun hh => h hh.2.2)]
  · by_cases h : nmLen r + 33 ≤ r.length
    · rw [if_pos h, if_pos ⟨rfl, .inl rfl, h⟩]
      rfl
    · rw [if_neg h, if_neg (fun hh => h hh.2.2)]
theorem infoZ : (Tryz.prog.info? 99).map (·.size) = some zeroE.length := infoE ⟨[], false, default⟩
set_option maxRecDepth 20000 in
set_option maxHeartbeats 3200000 in
theorem treeOne_no (W : World) (s : ByteArray) (l : List UInt8) (hl : l = s.data.toList) (h1 : Lib.hasPrefix l [100, 32] = false) (h2 : Lib.hasPrefix l [102, 32] = false) :
    Calls Tryz.prog 110 #[.string s] W fun e W' => e = .returned (oneV l) ∧ Below W.heap.size W W' := by
  have cd : ∀ w, Calls Tryz.prog 161 #[.string s, .string ⟨#[100, 32]⟩] w fun e w' => e = .returned (.bool false) ∧ w' = w := fun w => by
    have := Tryz.strings_HasPrefix s ⟨#[100, 32]⟩ w
    rw [← hl] at this
    have e : Lib.hasPrefix l (⟨#[100, 32]⟩ : ByteArray).data.toList = false := h1
    rwa [e] at this
  have cf : ∀ w, Calls Tryz.prog 161 #[.string s, .string ⟨#[102, 32]⟩] w fun e w' => e = .returned (.bool false) ∧ w' = w := fun w => by
    have := Tryz.strings_HasPrefix s ⟨#[102, 32]⟩ w
    rw [← hl] at this
    have e : Lib.hasPrefix l (⟨#[102, 32]⟩ : ByteArray).data.toList = false := h2
    rwa [e] at this
  have hv : oneV l = .tuple #[.agg zeroE.toArray, .string ⟨#[]⟩, .bool false] := by unfold oneV; rw [oneT_neither h1 h2]
  rw [hv]
  have n0 := Blk.new W 99 zeroE
  have l0 := (Below.refl W.heap.size W).alloc (Nat.le_refl _) (.cells zeroE.toArray 99)
  obtain ⟨w0, hw0⟩ : ∃ w0, w0 = W.alloc (.cells zeroE.toArray 99) := ⟨_, rfl⟩
  rw [← hw0] at n0 l0
  have N0 := Lib.hid n0
  have L0 := Lib.hid l0
  have CD := Lib.hid cd
  have CF := Lib.hid cf
  clear hl h1 h2 hv n0 l0 cd cf
  go_enter Tryz.func110, Tryz.ntmps110
  go_upto_region 1 with fail
  change Code.wp _ _ _ _ (W.alloc (.cells zeroE.toArray 99))
  rw [← hw0]
  clear hw0
  go_wp2_with (first
    | (go_at_call 161; refine (CD.out _).mono ?_; rintro e w' ⟨rfl, hw⟩; replace hw := hw.symm; subst hw)
    | (go_at_call 161; refine (CF.out _).mono ?_; rintro e w' ⟨rfl, hw⟩; replace hw := hw.symm; subst hw)
    | (refine wpl_build rfl 99 _ rfl zeroE (by kernel_rfl) ?_)
    | (refine wpl_storeS rfl 99 (.tmp 2) _ rfl W.heap.size zeroE rfl rfl 99 zeroE N0.out infoZ rfl (entE.one _) ?_))
  refine bodyPost_ret (res_rowS3 rfl _ _ W.heap.size 99 zeroE _ rfl (N0.out.row _) Tryz.underlying99 rfl infoZ) rfl ⟨rfl, below_setRow' L0.out (Nat.le_refl _) _⟩
set_option maxRecDepth 20000 in
set_option maxHeartbeats 6400000 in
theorem treeOne_at (W : World) (s : ByteArray) (b : Bool) (r : List UInt8) (hl : s.data.toList = (if b then 100 else 102) :: 32 :: r) (hs : s.size < 4294967281) (hG : Gl W) :
    Calls Tryz.prog 110 #[.string s] W fun e W' => e = .returned (oneV s.data.toList) ∧ Below W.heap.size W W' := by
  have hsz2 : s.size = r.length + 2 := by rw [ba_size, hl]; rfl
  have cd : ∀ w, Calls Tryz.prog 161 #[.string s, .string ⟨#[100, 32]⟩] w fun e w' => e = .returned (.bool b) ∧ w' = w := fun w => by
    have := Tryz.strings_HasPrefix s ⟨#[100, 32]⟩ w
    have e : Lib.hasPrefix s.data.toList (⟨#[100, 32]⟩ : ByteArray).data.toList = b := by rw [hl]; cases b <;> simp [Lib.hasPrefix, List.isPrefixOf]
    rwa [e] at this
  have cf : b = false → ∀ w, Calls Tryz.prog 161 #[.string s, .string ⟨#[102, 32]⟩] w fun e w' => e = .returned (.bool true) ∧ w' = w := fun hb w => by
    have := Tryz.strings_HasPrefix s ⟨#[102, 32]⟩ w
    have e : Lib.hasPrefix s.data.toList (⟨#[102, 32]⟩ : ByteArray).data.toList = true := by rw [hl, hb]; simp [Lib.hasPrefix, List.isPrefixOf]
    rwa [e] at this
  have n0 := Blk.new W 99 zeroE
  have l0 := (Below.refl W.heap.size W).alloc (Nat.le_refl _) (.cells zeroE.toArray 99)
  obtain ⟨w0, hw0⟩ : ∃ w0, w0 = W.alloc (.cells zeroE.toArray 99) := ⟨_, rfl⟩
  rw [← hw0] at n0 l0
  obtain ⟨m, hm⟩ := (hG.below l0).mlen
  have hex : (s.extract 2 s.size).data.toList = r := by rw [ba_extract, hl, hsz2]; simp
  obtain ⟨x, hx⟩ : ∃ x, x = s.extract 2 s.size := ⟨_, rfl⟩
  have cc := Tryz.strings_Cut x ⟨#[0]⟩ m w0 (by rw [hx, ba_size, hex]; omega) hm
  rw [hx, hex, ← hx] at cc
  have hx' : s.extract 2 s.size = x := hx.symm
  clear hx
  have e0 : (⟨#[0]⟩ : ByteArray).data.toList = [0] := rfl
  rw [e0, cut_nm] at cc
  rw [hl]
  unfold oneV
  rw [oneT_at]
  have hxs : (2 : Int) ≤ (s.size : Int) := by omega
  have N0 := Lib.hid n0
  have L0 := Lib.hid l0
  have CD := Lib.hid cd
  by_cases hk : nmLen r < r.length
  · rw [if_pos hk] at cc
    obtain ⟨nb, hnb⟩ : ∃ nb : ByteArray, nb = ⟨(r.take (nmLen r)).toArray⟩ := ⟨_, rfl⟩
    obtain ⟨rb, hrb⟩ : ∃ rb : ByteArray, rb = ⟨(r.drop (nmLen r + 1)).toArray⟩ := ⟨_, rfl⟩
    simp only [← hnb, ← hrb] at cc
    have CC := Lib.hid cc
    have rz : rb.size = r.length - (nmLen r + 1) := by rw [hrb, ba_size]; simp
    by_cases h32 : nmLen r + 33 ≤ r.length
    · rw [if_pos h32]
      have r32 : (32 : Int) ≤ (rb.size : Int) := by omega
      have hrd : rb.data.toList = r.drop (nmLen r + 1) := by rw [hrb]
      have hrx : (rb.extract 32 rb.size).data.toList = r.drop (nmLen r + 33) := by
        rw [ba_extract, hrd, List.take_of_length_le (by rw [List.length_drop, rz]; exact Nat.le_refl _), List.drop_drop]
      have hry : (rb.extract 0 32).data.toList = (r.drop (nmLen r + 1)).take 32 := by rw [ba_extract, hrd]; rfl
      clear hrd
      obtain ⟨id, hid⟩ : ∃ id : Idt, id = idAt r := ⟨_, rfl⟩
      have hid2 : id.1 = (rb.extract 0 32).data.toList := by
        rw [hry, hid]
        unfold idAt
        simp only
        rw [List.take_append_of_le_length (by rw [List.length_take, List.length_drop]; omega), List.take_take]
        congr 1
      have hfin : Value.tuple #[.agg (encE ⟨nb.data.toList, b, id⟩).toArray, .string (rb.extract 32 rb.size), .bool true] = .tuple #[.agg (encE ⟨r.take (nmLen r), b, id⟩).toArray, .string ⟨(r.drop (nmLen r + 33)).toArray⟩, .bool true] := by
        have e1 : rb.extract 32 rb.size = ⟨(r.drop (nmLen r + 33)).toArray⟩ := ba_ext (by rw [hrx])
        rw [e1, hnb]
      simp only [← hid]
      rw [← hfin]
      have hbu := built_ent nb b id
      have ie := infoE ⟨nb.data.toList, b, id⟩
      have lE : (encE ⟨nb.data.toList, b, id⟩).length = 34 := entE.len _
      have oE := entE.one ⟨nb.data.toList, b, id⟩
      obtain ⟨cs, hcs⟩ : ∃ cs, cs = encE ⟨nb.data.toList, b, id⟩ := ⟨_, rfl⟩
      rw [← hcs] at hbu ie lE ⊢
      have oE' : ∀ v ∈ cs, v.oneCell' = true := by rw [hcs]; exact oE
      obtain ⟨yb, hyb⟩ : ∃ yb, yb = rb.extract 0 32 := ⟨_, rfl⟩
      have hy32 : yb.size = 32 := by rw [hyb, ba_size, ← hid2, id.2]
      have CV := Lib.hid (fun w => conv_bytes w yb)
      have YI : Hid (Bs yb.data.toList = encI id) := Lib.hid (by rw [hyb, ← hid2]; rfl)
      have BU := Lib.hid hbu
      have IE := Lib.hid ie
      have LE := Lib.hid lE
      have OE := Lib.hid oE'
      have Y32 := Lib.hid hy32
      have ii := infoId id
      have II := Lib.hid ii
      clear hcs hid hid2 hfin oE oE' hrx hry hbu ie lE hy32 ii rz hnb hrb hex cc cd hl h32 hk hs hsz2 e0 hm hG n0 l0
      have yb' : rb.extract 0 32 = yb := hyb.symm
      clear hyb
      cases b
      all_goals
        first
          | (have CG := Lib.hid (cf rfl); clear cf)
          | (clear cf; have CG := CD)
        go_enter Tryz.func110, Tryz.ntmps110
        go_upto_region 1 with fail
        change Code.wp _ _ _ _ (W.alloc (.cells zeroE.toArray 99))
        rw [← hw0]
        clear hw0
        go_upto_region 7 with (first
          | (go_at_call 161; refine (CD.out _).mono ?_; rintro e w' ⟨rfl, hw⟩; replace hw := hw.symm; subst hw)
          | (go_at_call 161; refine (CG.out _).mono ?_; rintro e w' ⟨rfl, hw⟩; replace hw := hw.symm; subst hw)
          | (go_at_call 113; refine CC.out.mono ?_; rintro e w1 ⟨rfl, q, hw⟩; have N1 : Hid (Blk w1 W.heap.size 99 zeroE) := Lib.hid (by rw [hw]; exact N0.out.drewN q); have L1 : Hid (Below W.heap.size W w1) := Lib.hid (by rw [hw]; exact below_drewN' L0.out q); clear hw))
        refine wp_region_any (by kernel_rfl) ?_
        change wpAny _ _ _ _ _ _ _ (World.drew _)
        have N2 : Hid (Blk w1.drew W.heap.size 99 zeroE) := Lib.hid N1.out.drew
        have L2 : Hid (Below W.heap.size W w1.drew) := Lib.hid L1.out.drew
        generalize World.drew w1 = w2 at N2 L2 ⊢
        clear N1 L1 CC CD CG N0 L0
        refine wpAny_bare [0, 1, 2, 3, 8, 9] 7 (by rfl) (by kernel_rfl) (fun _ _ _ d _ h => by cases d <;> exact h) ?_
        simp only [bareO, List.filterMap_cons, List.filterMap_nil, List.getElem?_toArray, List.getElem?_cons_succ, List.getElem?_cons_zero]
        repeat (first | quiet_step (fail) | go_big_quiet_step (fail))
        refine wpQuiet_nil ?_
        obtain ⟨c, w3, hcv, hsrc, hb3, hsz3, hc⟩ := CV.out w2
        rw [Y32.out] at hcv hsrc hc
        have L3 := Lib.hid (L2.out.trans (hb3.mono L2.out.size))
        have N3 := Lib.hid (N2.out.below hb3)
        have S3 : Hid (∀ j v, (encI id)[j]? = some v → w3.cell? ((⟨w2.heap.size, 0, none⟩ : Addr).add j) = some v) := Lib.hid (by
          obtain ⟨ad, e, h⟩ := hsrc.2.1 (by omega)
          obtain rfl := Option.some.inj e
          rw [YI.out] at h
          exact h)
        have HV := Lib.hid hcv
        clear hcv hsrc hb3 hsz3 hc N2 L2
        generalize w2.heap.size = g2 at S3 HV
        refine wpAny_ready (rs := [4]) (by kernel_rfl) (by simp) ?_
        refine (AllReady.cons rfl (fun K hK => ?_) AllReady.nil)
        refine step_convw (by rfl) 9 53 _ rfl _ w3 (by first | exact HV.out | (show (convert _ _ (Value.string (rb.extract 0 32))).run _ _ = _; rw [yb']; exact HV.out)) ?_
        refine hK _ _ ?_
        clear hK K
        refine wpAny_ready (rs := [5]) (by kernel_rfl) (by simp) ?_
        refine (AllReady.cons rfl (fun K hK => ?_) AllReady.nil)
        refine step_arrPtr (by rfl) 24 _ rfl 32 5 Tryz.underlying24 _ 32 _ rfl (Nat.le_refl _) ?_
        refine hK _ _ ?_
        clear hK K
        refine wpAny_ready (rs := [6]) (by kernel_rfl) (by simp) ?_
        refine (AllReady.cons rfl (fun K hK => ?_) AllReady.nil)
        refine step_loadI (by rfl) 24 _ rfl ⟨g2, 0, none⟩ rfl (encI id) (Tryz.isAgg24 _) II.out S3.out ?_
        refine hK _ _ ?_
        clear hK K
        refine wpAny_ready (rs := [7]) (by kernel_rfl) (by simp) ?_
        refine (AllReady.cons rfl (fun K hK => ?_) AllReady.nil)
        refine step_build (by rfl) 99 _ rfl cs.toArray BU.out ?_
        refine hK _ _ ?_
        clear hK K
        refine wpAny_ready (rs := [10]) (by kernel_rfl) (by simp) ?_
        refine (AllReady.cons rfl (fun K hK => ?_) AllReady.nil)
        refine step_storeS (by rfl) 99 (.tmp 2) (.tmp 41) rfl W.heap.size cs rfl rfl 99 zeroE N3.out IE.out (by rw [LE.out]; rfl) OE.out ?_
        refine hK _ _ ?_
        clear hK K
        have N4 := Lib.hid (N3.out.row cs)
        have L4 := Lib.hid (below_setRow' L3.out (Nat.le_refl _) cs.toArray)
        generalize World.setRow _ _ _ = w4 at N4 L4 ⊢
        refine wpAny_ready (rs := [11]) (by kernel_rfl) (by simp) ?_
        refine (AllReady.cons rfl (fun K hK => ?_) AllReady.nil)
        go_simp
        refine hK _ _ ?_
        clear hK K
        refine wpAny_ready (rs := [12]) (by kernel_rfl) (by simp) ?_
        refine (AllReady.cons rfl (fun K hK => ?_) AllReady.nil)
        go_simp
        refine hK _ _ ?_
        clear hK K
        refine wpAny_done (by kernel_rfl) ?_ _
        go_wp2
        refine bodyPost_ret (res_rowS3 rfl _ _ W.heap.size 99 cs _ rfl N4.out Tryz.underlying99 rfl IE.out) rfl ⟨rfl, L4.out⟩
    · rw [if_neg h32]
      have r32 : (rb.size : Int) < 32 := by omega
      clear rz hnb hrb hex cc cd hl h32 hk hs hsz2 e0 hm hG n0 l0
      cases b
      all_goals
        first
          | (have CG := Lib.hid (cf rfl); clear cf)
          | (clear cf; have CG := CD)
        go_enter Tryz.func110, Tryz.ntmps110
        go_upto_region 1 with fail
        change Code.wp _ _ _ _ (W.alloc (.cells zeroE.toArray 99))
        rw [← hw0]
        clear hw0
        go_wp2_with (first
          | (go_at_call 161; refine (CD.out _).mono ?_; rintro e w' ⟨rfl, hw⟩; replace hw := hw.symm; subst hw)
          | (go_at_call 161; refine (CG.out _).mono ?_; rintro e w' ⟨rfl, hw⟩; replace hw := hw.symm; subst hw)
          | (go_at_call 113; refine CC.out.mono ?_; rintro e w1 ⟨rfl, q, hw⟩; have N1 : Hid (Blk w1 W.heap.size 99 zeroE) := Lib.hid (by rw [hw]; exact N0.out.drewN q); have L1 : Hid (Below W.heap.size W w1) := Lib.hid (by rw [hw]; exact below_drewN' L0.out q); clear hw)
          | (refine wpl_build rfl 99 _ rfl zeroE (by kernel_rfl) ?_)
          | (refine wpl_storeS rfl 99 (.tmp 2) _ rfl W.heap.size zeroE rfl rfl 99 zeroE N1.out infoZ rfl (entE.one _) ?_))
        refine bodyPost_ret (res_rowS3 rfl _ _ W.heap.size 99 zeroE _ rfl (N1.out.row _) Tryz.underlying99 rfl infoZ) rfl ⟨rfl, below_setRow' L1.out (Nat.le_refl _) _⟩
  · rw [if_neg hk] at cc
    rw [if_neg (by omega)]
    obtain ⟨rb, hrb⟩ : ∃ rb : ByteArray, rb = ⟨r.toArray⟩ := ⟨_, rfl⟩
    simp only [← hrb] at cc
    have CC := Lib.hid cc
    clear hrb hex cc cd hl hk hs hsz2 e0 hm hG n0 l0
    cases b
    all_goals
      first
        | (have CG := Lib.hid (cf rfl); clear cf)
        | (clear cf; have CG := CD)
      go_enter Tryz.func110, Tryz.ntmps110
      go_upto_region 1 with fail
      change Code.wp _ _ _ _ (W.alloc (.cells zeroE.toArray 99))
      rw [← hw0]
      clear hw0
      go_wp2_with (first
        | (go_at_call 161; refine (CD.out _).mono ?_; rintro e w' ⟨rfl, hw⟩; replace hw := hw.symm; subst hw)
        | (go_at_call 161; refine (CG.out _).mono ?_; rintro e w' ⟨rfl, hw⟩; replace hw := hw.symm; subst hw)
        | (go_at_call 113; refine CC.out.mono ?_; rintro e w1 ⟨rfl, q, hw⟩; have N1 : Hid (Blk w1 W.heap.size 99 zeroE) := Lib.hid (by rw [hw]; exact N0.out.drewN q); have L1 : Hid (Below W.heap.size W w1) := Lib.hid (by rw [hw]; exact below_drewN' L0.out q); clear hw)
        | (refine wpl_build rfl 99 _ rfl zeroE (by kernel_rfl) ?_)
        | (refine wpl_storeS rfl 99 (.tmp 2) _ rfl W.heap.size zeroE rfl rfl 99 zeroE N1.out infoZ rfl (entE.one _) ?_))
      refine bodyPost_ret (res_rowS3 rfl _ _ W.heap.size 99 zeroE _ rfl (N1.out.row _) Tryz.underlying99 rfl infoZ) rfl ⟨rfl, below_setRow' L1.out (Nat.le_refl _) _⟩
theorem treeOne_any (W : World) (s : ByteArray) (hs : s.size < 4294967281) (hG : Gl W) : Calls Tryz.prog 110 #[.string s] W fun e W' => e = .returned (oneV s.data.toList) ∧ Below W.heap.size W W' := by
  cases h1 : Lib.hasPrefix s.data.toList [100, 32]
  · cases h2 : Lib.hasPrefix s.data.toList [102, 32]
    · exact treeOne_no W s _ rfl h1 h2
    · obtain ⟨r, hr⟩ := prefix_two h2
      exact treeOne_at W s false r (by rw [hr]; rfl) hs hG
  · obtain ⟨r, hr⟩ := prefix_two h1
    exact treeOne_at W s true r (by rw [hr]; rfl) hs hG
end Go.Proofs.YtpbnigpdpkfpaaaGreatDoor
namespace Go.Proofs.YtpbnigpdpkfpaaaGreatDoor
open Go.RowKit
/-- What tree.Get tells. -/
def GetTPost (W : World) (l : List UInt8) (e : Ending) (W' : World) : Prop := match getT l with
  | some es => ∃ A c, e = .returned (.tuple #[.slice A es.length c, .int .i64 0]) ∧ RowQ W' W.heap.size 99 34 (.slice A es.length c) es.length (entE.row es) ∧ Below W.heap.size W W'
  | none => e = .returned (.tuple #[.slice none 0 0, .int .i64 1]) ∧ Below W.heap.size W W'
/-- What is read so far, and what is left. -/
structure GetIn (W : World) (l : List UInt8) (x : ByteArray) (es : List Ent) (v : Value) (wr : World) : Prop where
  row : RowQ wr W.heap.size 99 34 v es.length (entE.row es)
  low : Below W.heap.size W wr
  sum : es.length * 35 + x.size ≤ l.length
  fit : ∀ e ∈ es, e.nm.length ≤ l.length
  get : getL l = (getL x.data.toList).map (es ++ ·)
theorem oneT_fit {s r : List UInt8} {e : Ent} (h : oneT s = some (e, r)) : e.nm.length ≤ s.length := by
  match s with
  | [] => simp [oneT] at h
  | [_] => simp [oneT] at h
  | c :: d :: t =>
    rw [oneT] at h
    split at h
    · injection h with h
      injection h with h _
      subst h
      simp only [List.length_take, List.length_cons]
      omega
    · cases h
theorem GetIn.next {W : World} {l : List UInt8} {x : ByteArray} {es : List Ent} {v v' : Value} {wr w' : World} {e : Ent} {r : List UInt8} (h : GetIn W l x es v wr) (hx : x.data.toList ≠ []) (ho : oneT x.data.toList = some (e, r))
    (hr : RowQ w' W.heap.size 99 34 v' (es.length + 1) (entE.row es ++ entE.row [e])) (hl : Below W.heap.size W w') : GetIn W l ⟨r.toArray⟩ (es ++ [e]) v' w' := by
  have hlen := oneT_len ho
  have hxs := ba_size x
  have hsum := h.sum
  refine ⟨?_, hl, ?_, ?_, ?_⟩
  · rw [entE.row_append, List.length_append]; exact hr
  · rw [ba_size, List.length_append, List.length_cons, List.length_nil]
    show (es.length + (0 + 1)) * 35 + r.length ≤ l.length
    omega
  · intro y hy
    rcases List.mem_append.1 hy with hm | hm
    · exact h.fit y hm
    · rw [List.mem_singleton.1 hm]
      have := oneT_fit ho
      omega
  · rw [h.get, getL_next hx, ho]
    simp only [Option.map_map]
    congr 1
    funext z
    simp
set_option maxRecDepth 20000 in
set_option maxHeartbeats 6400000 in
theorem treeGet_any (W : World) (s : ByteArray) (l : List UInt8) (hl : l = s.data.toList) (hs : s.size < 4294967281) (hG : Gl W) : Calls Tryz.prog 59 #[.string s] W (GetTPost W l) := by
  have hls : l.length = s.size := by rw [hl, ← ba_size]
  have I0 : GetIn W l s [] (.slice none 0 0) W := ⟨RowQ.nil _ _ _ _, Below.refl _ _, by simp [hls], fun e he => absurd he (by simp), (by rw [hl]; cases getL s.data.toList <;> rfl)⟩
  have K0 := Lib.hid I0
  have HG := Lib.hid hG
  have HS := Lib.hid (show l.length < 4294967281 by omega)
  clear hl hs hG hls I0
  go_enter Tryz.func59, Tryz.ntmps59
  go_wp2
  go_loopw [0, 4] (fun b v wr => ∃ (x : ByteArray) (es : List Ent), b = .string x ∧ GetIn W l x es v wr) (fun b _ _ => match b with | .string x => x.size | _ => 0)
  case atStart => exact ⟨s, [], rfl, K0.out⟩
  case round =>
    obtain ⟨x, es, rfl, hI⟩ := hrel
    clear K0
    have HI := Lib.hid hI
    clear hI
    obtain ⟨A1, c1, rfl, hc1, hm1⟩ := HI.out.row.shape
    by_cases hx : x.data.toList = []
    · have hx0 : x = ⟨#[]⟩ := ba_ext (by rw [hx])
      subst hx0
      have hget : getL l = some es := by rw [HI.out.get]; show some (es ++ []) = _; rw [List.append_nil]
      have hT : getT l = if mayT es = true then some es else none := by unfold getT; rw [hget]; rfl
      have hle := HI.out.sum
      have cM := fun w (hw : Below wr.heap.size wr w) => treeMay_any w A1 es.length c1 es (entE.src_below (HI.out.row.src (entE.row_one _)) hw) (by have := HS.out; omega) (fun e he => by have := HI.out.fit e he; have := HS.out; simp only [maxLen]; omega)
      have HT := Lib.hid hT
      cases hm : mayT es
      all_goals
        rw [hm] at HT
        simp only [hm] at cM
        have CM := Lib.hid cM
        clear cM hm hget hT hx hle
        go_wp2_with (go_at_call 71; refine (CM.out _ (Below.refl _ _)).mono ?_; rintro e w1 ⟨rfl, h1⟩; have B1 := Lib.hid h1; clear h1)
        go_ret2
        unfold GetTPost
        rw [HT.out]
        first
          | exact ⟨rfl, HI.out.low.trans (B1.out.mono HI.out.low.size)⟩
          | exact ⟨A1, c1, rfl, HI.out.row.below B1.out, HI.out.low.trans (B1.out.mono HI.out.low.size)⟩
    · have hne : x.toList.isEmpty = false := by rw [ByteArray.toList_eq]; simpa using hx
      have hxs : x.size < 4294967281 := by have := HI.out.sum; have := HS.out; omega
      have cO := treeOne_any wr x hxs (HG.out.below HI.out.low)
      unfold oneV at cO
      have HX := Lib.hid hx
      cases ho : oneT x.data.toList with
      | none =>
        rw [ho] at cO
        have CO := Lib.hid cO
        have hT : getT l = none := by unfold getT; rw [HI.out.get, getL_next hx, ho]; rfl
        have HT := Lib.hid hT
        clear hx cO ho hT hxs
        go_wp2_with (first
          | (go_at_call 110; refine CO.out.mono ?_; rintro e w1 ⟨rfl, h1⟩; have B1 := Lib.hid h1; clear h1)
          | (refine wpl_storeS rfl 99 (.tmp 5) _ rfl w1.heap.size zeroE rfl rfl 99 zeroE (Blk.new w1 _ _) infoZ rfl (entE.one _) ?_))
        go_ret2
        unfold GetTPost
        rw [HT.out]
        exact ⟨rfl, below_setRow' ((HI.out.low.trans (B1.out.mono HI.out.low.size)).alloc (by have := HI.out.low.size; have := B1.out.size; omega) _) (by have := HI.out.low.size; have := B1.out.size; omega) _⟩
      | some p =>
        obtain ⟨e, r⟩ := p
        rw [ho] at cO
        simp only at cO
        obtain ⟨rb, hrb⟩ : ∃ rb : ByteArray, rb = ⟨r.toArray⟩ := ⟨_, rfl⟩
        rw [← hrb] at cO
        have CO := Lib.hid cO
        have HO := Lib.hid ho
        have ie := infoE e
        have IE := Lib.hid ie
        have hrz : rb.size < x.size := by have := oneT_len ho; have h3 : (⟨r.toArray⟩ : ByteArray).data.toList.length = r.length := rfl; rw [hrb, ba_size, ba_size x, h3]; omega
        have HRB := Lib.hid hrb
        have HRZ := Lib.hid hrz
        clear hx cO ho hxs ie hrb hrz
        go_upto_region 6 with (first
          | (go_at_call 110; refine CO.out.mono ?_; rintro e w1 ⟨rfl, h1⟩; have B1 := Lib.hid h1; clear h1)
          | (refine wpl_storeS rfl 99 (.tmp 5) _ rfl w1.heap.size (encE e) rfl rfl 99 zeroE (Blk.new w1 _ _) IE.out (by rw [show (encE e).length = 34 from entE.len _]; rfl) (entE.one _) ?_))
        have R1 : Hid (RowQ w1 W.heap.size 99 34 (.slice A1 es.length c1) es.length (entE.row es)) := Lib.hid (HI.out.row.below B1.out)
        have L1 := Lib.hid (HI.out.low.trans (B1.out.mono HI.out.low.size))
        generalize hw2 : World.setRow _ _ _ = w2
        have E2 : Hid (Below w1.heap.size w1 w2) := Lib.hid (by rw [← hw2]; exact (ent_laid w1 e).1)
        have K2 : Hid (Blk w2 w1.heap.size 99 (encE e)) := Lib.hid (by rw [← hw2]; exact (ent_laid w1 e).2)
        clear hw2
        have R2 := Lib.hid (R1.out.below E2.out)
        have L2 := Lib.hid (L1.out.trans (E2.out.mono L1.out.size))
        generalize w1.heap.size = g at K2 ⊢
        go_wp2_with (first
          | (refine wpl_loadS rfl 99 (.tmp 5) rfl ⟨g, 0, none⟩ rfl (encE e) Tryz.isAgg99 IE.out (fun j u hu => by rw [addr_row _ rfl, Nat.zero_add]; exact K2.out.cell j u hu) ?_)
          | (refine wpl_buildE entE rfl 22 99 1 _ rfl [e] rfl rfl (.agg zeroE.toArray) 56 Tryz.underlying22 (by kernel_rfl) (by decide) (by decide) ?_; have R3 := Lib.hid (R2.out.alloc (.cells (entE.row [e]).toArray 99)); have L3 := Lib.hid (L2.out.alloc L2.out.size (.cells (entE.row [e]).toArray 99)); have S3 := Lib.hid (row_src entE w2 99 [e]); generalize w2.heap.size = g3 at S3 ⊢; generalize World.alloc w2 (.cells (entE.row [e]).toArray 99) = w3 at R3 L3 S3 ⊢)
          | (at_builtin; refine wpl_append rfl (.tmp 18) (.tmp 20) 22 rfl W.heap.size 99 (.agg zeroE.toArray) 34 56 Tryz.underlying22 (by kernel_rfl) rfl (by decide) (.slice A1 es.length c1) es.length (entE.row es) rfl R3.out (some ⟨g3, 0, none⟩) 1 1 (entE.row [e]) rfl S3.out (by have := HI.out.sum; have := HS.out; omega) (by have := HI.out.sum; have := HS.out; omega) L3.out.size ?_; intro v4 w4 hr4 hg4 ha4; have R4 := Lib.hid hr4; have L4 := Lib.hid (L3.out.grown hg4 L3.out.size (fun k e => (R3.out.lt k e).1)); clear hr4 hg4 ha4))
        go_roundw
        case measure => exact HRZ.out
        case rel =>
          refine ⟨rb, es ++ [e], rfl, ?_⟩
          rw [HRB.out]
          exact HI.out.next HX.out HO.out R4.out L4.out
end Go.Proofs.YtpbnigpdpkfpaaaGreatDoor
