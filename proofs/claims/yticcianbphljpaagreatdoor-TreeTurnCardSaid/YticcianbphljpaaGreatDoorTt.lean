/- TreeTurn: a tree of which a byte was turned, taken out, put in: the law's walk. (printed by wip/genTt.py) -/
import Derived.Test.YticcianbphljpaaGreatDoorP18x
import Derived.Test.YticcianbphljpaaGreatDoorP7x
import Derived.Test.YticcianbphljpaaGreatDoorPz
import Derived.Laws.Concat
namespace Go.Proofs.YticcianbphljpaaGreatDoor
open Go.RowKit
theorem putV_back {s : List UInt8} {ys : List Ent} (h : getT s = some ys) (x : ByteArray) (hx : s = x.data.toList) : putV ys = .tuple #[.string x, .bool true] ∧ NamesFit ys := by
  obtain ⟨h1, h2⟩ := getT_back h
  have e : x = ⟨(treeB ys).toArray⟩ := ba_ext (by rw [← hx, h1])
  refine ⟨by unfold putV; rw [h2, e]; rfl, fun y hy => ?_⟩
  have := nameB_len (mayT_mem h2 y hy)
  unfold maxLen
  omega
set_option maxRecDepth 20000 in
set_option maxHeartbeats 12800000 in
theorem treeTurnLaw_any (W : World) (A : Option Addr) (n c : Nat) (es : List Ent) (at_ b : Int) (hb0 : 0 ≤ b) (hb1 : b < 256) (hs : Src W 34 A n (entE.row es)) (hc : n ≤ c) (hf : ∀ e ∈ es, e.nm.length ≤ maxLen) (hG : Gl W) (hE : Ge W) :
    Calls Tryz.prog 5 #[.slice A n c, .int .i64 at_, .int .u8 b] W fun e W' => e = .returned (.bool true) ∧ Below W.heap.size W W' := by
  obtain ⟨x, hx⟩ : ∃ x : UInt8, b = ub x := ⟨UInt8.ofNat b.toNat, by unfold ub; rw [UInt8.toNat_ofNat']; omega⟩
  subst hx
  obtain ⟨q, hq⟩ : ∃ q : Nat, q = min n 20 := ⟨_, rfl⟩
  have hmin : min (n : Int) 20 = (q : Int) := by omega
  have hqc : (q : Int) ≤ (c : Int) := by omega
  obtain ⟨us, hus⟩ : ∃ us, us = es.take q := ⟨_, rfl⟩
  have hsq : ∀ w, Below W.heap.size W w → Src w 34 A q (entE.row us) := fun w hw => by rw [hus]; exact entE.src_take (entE.src_below hs hw) q (by omega)
  have huf : NamesFit us := fun e he => hf e (by rw [hus] at he; exact List.mem_of_mem_take he)
  have cPut := fun w (hw : Below W.heap.size W w) => treePut_any w A q c us (hsq w hw) (by omega) huf
  unfold putV at cPut
  have cB := begun6_any W hG hE
  have CB := Lib.hid cB
  cases hm : mayT us
  · rw [hm] at cPut
    have CPut := Lib.hid cPut
    clear cB cPut hG hE hsq huf hus hs hc hf hq hm hb0 hb1
    go_enter Tryz.func5, Tryz.ntmps5
    go_wp2_with (first
      | (go_at_call 13; refine CB.out.mono ?_; rintro e w1 ⟨rfl, hb⟩; have B1 := Lib.hid hb; clear hb)
      | (go_at_call 23; refine (CPut.out _ B1.out).mono ?_; rintro e w3 ⟨rfl, hb⟩; have B3 := Lib.hid (B1.out.trans (hb.mono B1.out.size)); clear hb))
    go_ret
    exact ⟨rfl, B3.out⟩
  · rw [hm] at cPut
    obtain ⟨sb, hsb⟩ : ∃ sb : ByteArray, sb = ⟨(treeB us).toArray⟩ := ⟨_, rfl⟩
    have hsz : sb.size ≤ 1100 := by
      rw [ba_size, hsb]
      show (treeB us).length ≤ 1100
      have h1 := treeB_len us fun e he => nameB_len (mayT_mem hm e he)
      have h2 := mayT_len hm
      omega
    have cPut2 : ∀ w, Below W.heap.size W w → Calls Tryz.prog 23 #[.slice A q c] w fun e w' => e = .returned (.tuple #[.string sb, .bool true]) ∧ Below w.heap.size w w' := fun w hw => by rw [hsb]; exact cPut w hw
    have CPut := Lib.hid cPut2
    have SZ := Lib.hid hsz
    have HG := Lib.hid hG
    clear cB cPut cPut2 hG hE hsq huf hus hs hc hf hq hm hb0 hb1 hsb hsz
    go_enter Tryz.func5, Tryz.ntmps5
    go_upto_region 5 with (first
      | (go_at_call 13; refine CB.out.mono ?_; rintro e w1 ⟨rfl, hb⟩; have B1 := Lib.hid hb; clear hb)
      | (go_at_call 23; refine (CPut.out _ B1.out).mono ?_; rintro e w3 ⟨rfl, hb⟩; have B3 := Lib.hid (B1.out.trans (hb.mono B1.out.size)); clear hb))
    clear B1 CB CPut
    by_cases hemp0 : sb.data.toList = []
    · have e1 : (sb.toList == []) = true := by rw [ByteArray.toList_eq, hemp0]; rfl
      have e2 : sb.toList.isEmpty = true := by rw [ByteArray.toList_eq, hemp0]; rfl
      clear hemp0
      go_wp2
      go_ret
      exact ⟨rfl, B3.out⟩
    · have e1 : (sb.toList == []) = false := by rw [ByteArray.toList_eq]; simpa using hemp0
      have e2 : sb.toList.isEmpty = false := by rw [ByteArray.toList_eq]; simpa using hemp0
      have hz0 : 0 < sb.size := by rw [ba_size]; exact List.length_pos_iff.2 hemp0
      clear hemp0
      by_cases hneg : at_ < 0
      · go_wp2
        go_ret
        exact ⟨rfl, B3.out⟩
      · obtain ⟨sl, hsl⟩ : ∃ sl, sl = sb.data.toList := ⟨_, rfl⟩
        have hll : sl.length = sb.size := by rw [hsl, ← ba_size]
        obtain ⟨k, hk⟩ : ∃ k : Nat, at_ % (sb.size : Int) = (k : Int) := ⟨(at_ % (sb.size : Int)).toNat, by have := Int.emod_nonneg at_ (show (sb.size : Int) ≠ 0 by omega); omega⟩
        have hkl : k < sb.size := by have := Int.emod_lt_of_pos at_ (show (0 : Int) < (sb.size : Int) by omega); omega
        have hk2 : at_.tmod (sb.size : Int) = (k : Int) := by rw [Int.tmod_eq_emod_of_nonneg (by omega)]; exact hk
        have hnz : ¬ (sb.size : Int) = 0 := by omega
        have hnz2 : ((sb.size : Int) == 0) = false := by simpa using hnz
        have hkw : wrap64 (k : Int) = (k : Int) := by have := SZ.out; unfold wrap64; omega
        obtain ⟨c0, hcv⟩ : ∃ c0, (convert 9 47 (.string sb)).run Tryz.prog w3 = .ok (.slice (some ⟨w3.heap.size, 0, none⟩) sb.size c0) (Lib.bytesWorld w3 5 sb) := by
          have hs1 : Tryz.prog.underlying 9 = some .string := by kernel_rfl
          have he1 : Tryz.prog.underlying 5 = some (.int .u8) := by kernel_rfl
          exact ⟨_, Lib.run_convert_string_bytes (P := Tryz.prog) w3 9 47 5 sb hs1 Tryz.underlying47 he1⟩
        have p3 := PB.new w3 sb sl hsl
        have b3 : Below w3.heap.size w3 (Lib.bytesWorld w3 5 sb) := ⟨rfl, rfl, rfl, by rw [Lib.bytesWorld_size]; omega, fun k hk => Lib.bytesWorld_at_old w3 5 sb k hk⟩
        have HCV := Lib.hid hcv
        generalize Lib.bytesWorld w3 5 sb = w2 at p3 b3 HCV
        obtain ⟨p, hp⟩ : ∃ p, p = sl.set k x := ⟨_, rfl⟩
        have p4 := p3.set k x
        rw [← hp] at p4
        have x3 := p3.frozen k (by omega)
        have x4 := p3.cell k (by omega)
        have l4 : Below W.heap.size W (w2.setCell ⟨w3.heap.size, k, none⟩ (.int .u8 (ub x))) := below_setCell' (B3.out.trans (b3.mono B3.out.size)) w3.heap.size k B3.out.size _
        have PL : Hid (p.length = sb.size) := Lib.hid (by rw [hp, List.length_set, hll])
        have P4 := Lib.hid p4
        have L4 := Lib.hid l4
        have KLT := Lib.hid hkl
        have c9 : (k : Int) < (sb.size : Int) := by omega
        clear p4 l4 p3 b3 hp hll hcv hsl hk hz0 hnz2 hkl
        go_upto_region 9 with (refine wpl_convw rfl 9 47 _ rfl _ rfl _ w2 HCV.out ?_)
        clear hk2 HCV hkw
        go_upto_region 10 with fail
        clear x3 x4 hnz c9 B3
        generalize w2.setCell ⟨w3.heap.size, k, none⟩ (.int .u8 (ub x)) = w4 at P4 L4 ⊢
        generalize w3.heap.size = g at P4 ⊢
        generalize c0 = c at P4 ⊢
        obtain ⟨u, hu⟩ : ∃ u : ByteArray, u = ⟨p.toArray⟩ := ⟨_, rfl⟩
        have uz : u.size = sb.size := by rw [hu, ba_size]; exact PL.out
        have hc4 : ∀ w, Below w4.heap.size w4 w → (convert 47 9 (.slice (some ⟨g, 0, none⟩) sb.size c)).run Tryz.prog w = .ok (.string u) w := fun w hb => by rw [hu]; exact run_str _ _ _ _ _ ((P4.out.below hb).src sb.size PL.out)
        have HC4 := Lib.hid hc4
        obtain ⟨k1, hk1⟩ : ∃ k1, k1 = k + 1 := ⟨_, rfl⟩
        have zz := SZ.out
        have kl := KLT.out
        have jb : wrap64 ((k : Int) + 1) = (k1 : Int) := by unfold wrap64; omega
        have jb2 : IntKind.i64.wrap ((k : Int) + 1) = (k1 : Int) := by first | exact jb | (simp only [go_sem]; exact jb) | (simp [IntKind.wrap, IntKind.signed, IntKind.bits]; omega)
        have kz : (k : Int) ≤ (sb.size : Int) := by omega
        have kz1 : (k1 : Int) ≤ (sb.size : Int) := by omega
        obtain ⟨a1, ha1⟩ : ∃ a : ByteArray, sb.extract 0 k = a := ⟨_, rfl⟩
        obtain ⟨a2, ha2⟩ : ∃ a : ByteArray, sb.extract k1 sb.size = a := ⟨_, rfl⟩
        obtain ⟨a3, ha3⟩ : ∃ a : ByteArray, sb.extract k sb.size = a := ⟨_, rfl⟩
        obtain ⟨bb, hbb⟩ : ∃ b : ByteArray, b = ⟨[x].toArray⟩ := ⟨_, rfl⟩
        have z1 : a1.size ≤ 1100 := by rw [← ha1, ByteArray.size_extract]; omega
        have z2 : a2.size ≤ 1100 := by rw [← ha2, ByteArray.size_extract]; omega
        have z3 : a3.size ≤ 1100 := by rw [← ha3, ByteArray.size_extract]; omega
        have zb : bb.size = 1 := by rw [hbb, ba_size]; rfl
        have zab : (a1 ++ bb).size ≤ 1101 := by rw [ByteArray.size_append]; omega
        have hadd1 : ∀ w, (Op.stringOp .add a1 a2).run Tryz.prog w = .ok (.string (a1 ++ a2)) w := fun w => run_string_add_sum w _ _ (by omega)
        have hadd2 : ∀ w, (Op.stringOp .add a1 bb).run Tryz.prog w = .ok (.string (a1 ++ bb)) w := fun w => run_string_add_sum w _ _ (by omega)
        have hadd3 : ∀ w, (Op.stringOp .add (a1 ++ bb) a3).run Tryz.prog w = .ok (.string (a1 ++ bb ++ a3)) w := fun w => run_string_add_sum w _ _ (by omega)
        have y1 : (a1 ++ a2).size ≤ 2200 := by rw [ByteArray.size_append]; omega
        have y2 : (a1 ++ bb ++ a3).size ≤ 2201 := by rw [ByteArray.size_append]; omega
        have Y1 := Lib.hid y1
        have Y2 := Lib.hid y2
        have Y0 := Lib.hid (show u.size ≤ 1100 by omega)
        have HBB := Lib.hid hbb
        clear hu uz hc4 zz kl hk1 hbb y1 y2
        go_upto_region 10 with fail
        go_cut [73, 74, 75] (fun v n i wx => ∃ g3, v = .slice (some ⟨g3, 0, none⟩) 3 3 ∧ n = .int .i64 3 ∧ i = .int .i64 0 ∧ Below W.heap.size W wx ∧ Blk wx g3 9 [.string u, .string (a1 ++ a2), .string (a1 ++ bb ++ a3)])
        case first =>
          refine wp_region_any (by kernel_rfl) ?_
          change wpAny _ _ _ _ _ _ _ (World.drew _)
          have V0 : Hid (Below w4.heap.size w4 w4.drew) := Lib.hid (Below.refl _ _).drew
          generalize World.drew w4 = v0 at V0 ⊢
          refine wpAny_bare [0, 2, 3, 4, 5, 6, 7, 8, 9, 10, 11, 12, 13, 17, 18, 19, 23] 7 (by rfl) (by kernel_rfl) (fun _ _ _ d _ h => by cases d <;> exact h) ?_
          simp only [bareO, List.filterMap_cons, List.filterMap_nil, List.getElem?_toArray, List.getElem?_cons_succ, List.getElem?_cons_zero]
          repeat (first | quiet_step (fail) | go_big_quiet_step (fail))
          refine wpQuiet_nil ?_
          clear z1 z2 z3 zb zab kz kz1 jb jb2 ha1 ha2 ha3 hadd1
          refine wpAny_ready (rs := [1, 14]) (by kernel_rfl) (by simp) ?_
          refine (AllReady.cons rfl (fun K hK => ?_) (AllReady.cons rfl (fun K hK => ?_) AllReady.nil))
          refine step_convB (by rfl) 47 9 (.tmp 52) rfl (.string u) (HC4.out v0 V0.out) ?_
          refine hK _ _ ?_
          clear hK K
          refine wpAny_ready (rs := [14]) (by kernel_rfl) (by simp) ?_
          refine (AllReady.cons rfl (fun K hK => ?_) AllReady.nil)
          refine step_buildB (by rfl) (.tmp 65) rfl (ub x) rfl ?_
          refine hK _ _ ?_
          clear hK K
          refine wpAny_ready (rs := [15]) (by kernel_rfl) (by simp) ?_
          refine (AllReady.cons rfl (fun K hK => ?_) AllReady.nil)
          refine step_convB (by rfl) 47 9 (.tmp 66) rfl (.string bb) (by rw [HBB.out]; exact run_str _ _ 1 1 [x] (byte_src v0 x)) ?_
          refine hK _ _ ?_
          clear hK K
          refine wpAny_ready (rs := [16]) (by kernel_rfl) (by simp) ?_
          refine (AllReady.cons rfl (fun K hK => ?_) AllReady.nil)
          go_simp
          refine hK _ _ ?_
          clear hK K
          refine wpAny_ready (rs := [20]) (by kernel_rfl) (by simp) ?_
          refine (AllReady.cons rfl (fun K hK => ?_) AllReady.nil)
          go_simp
          refine hK _ _ ?_
          clear hK K
          refine wpAny_ready (rs := [21]) (by kernel_rfl) (by simp) ?_
          refine (AllReady.cons rfl (fun K hK => ?_) AllReady.nil)
          go_simp
          refine hK _ _ ?_
          clear hK K
          refine wpAny_ready (rs := [22]) (by kernel_rfl) (by simp) ?_
          refine (AllReady.cons rfl (fun K hK => ?_) AllReady.nil)
          go_simp
          refine hK _ _ ?_
          clear hK K
          refine wpAny_done (by kernel_rfl) ?_ _
          rotate_left
          refine step_buildB (by rfl) (.tmp 65) rfl (ub x) rfl ?_
          refine hK _ _ ?_
          clear hK K
          refine wpAny_ready (rs := [1, 15]) (by kernel_rfl) (by simp) ?_
          refine (AllReady.cons rfl (fun K hK => ?_) (AllReady.cons rfl (fun K hK => ?_) AllReady.nil))
          refine step_convB (by rfl) 47 9 (.tmp 52) rfl (.string u) (HC4.out (v0.alloc (.cells #[.int .u8 (ub x)] 5)) (V0.out.alloc V0.out.size _)) ?_
          refine hK _ _ ?_
          clear hK K
          refine wpAny_ready (rs := [15]) (by kernel_rfl) (by simp) ?_
          refine (AllReady.cons rfl (fun K hK => ?_) AllReady.nil)
          refine step_convB (by rfl) 47 9 (.tmp 66) rfl (.string bb) (by rw [HBB.out]; exact run_str _ _ 1 1 [x] (byte_src v0 x)) ?_
          refine hK _ _ ?_
          clear hK K
          refine wpAny_ready (rs := [16]) (by kernel_rfl) (by simp) ?_
          refine (AllReady.cons rfl (fun K hK => ?_) AllReady.nil)
          go_simp
          refine hK _ _ ?_
          clear hK K
          refine wpAny_ready (rs := [20]) (by kernel_rfl) (by simp) ?_
          refine (AllReady.cons rfl (fun K hK => ?_) AllReady.nil)
          go_simp
          refine hK _ _ ?_
          clear hK K
          refine wpAny_ready (rs := [21]) (by kernel_rfl) (by simp) ?_
          refine (AllReady.cons rfl (fun K hK => ?_) AllReady.nil)
          go_simp
          refine hK _ _ ?_
          clear hK K
          refine wpAny_ready (rs := [22]) (by kernel_rfl) (by simp) ?_
          refine (AllReady.cons rfl (fun K hK => ?_) AllReady.nil)
          go_simp
          refine hK _ _ ?_
          clear hK K
          refine wpAny_done (by kernel_rfl) ?_ _
          rotate_left
          refine step_convB (by rfl) 47 9 (.tmp 66) rfl (.string bb) (by rw [HBB.out]; exact run_str _ _ 1 1 [x] (byte_src v0 x)) ?_
          refine hK _ _ ?_
          clear hK K
          refine wpAny_ready (rs := [1, 16]) (by kernel_rfl) (by simp) ?_
          refine (AllReady.cons rfl (fun K hK => ?_) (AllReady.cons rfl (fun K hK => ?_) AllReady.nil))
          refine step_convB (by rfl) 47 9 (.tmp 52) rfl (.string u) (HC4.out (v0.alloc (.cells #[.int .u8 (ub x)] 5)) (V0.out.alloc V0.out.size _)) ?_
          refine hK _ _ ?_
          clear hK K
          refine wpAny_ready (rs := [16]) (by kernel_rfl) (by simp) ?_
          refine (AllReady.cons rfl (fun K hK => ?_) AllReady.nil)
          go_simp
          refine hK _ _ ?_
          clear hK K
          refine wpAny_ready (rs := [20]) (by kernel_rfl) (by simp) ?_
          refine (AllReady.cons rfl (fun K hK => ?_) AllReady.nil)
          go_simp
          refine hK _ _ ?_
          clear hK K
          refine wpAny_ready (rs := [21]) (by kernel_rfl) (by simp) ?_
          refine (AllReady.cons rfl (fun K hK => ?_) AllReady.nil)
          go_simp
          refine hK _ _ ?_
          clear hK K
          refine wpAny_ready (rs := [22]) (by kernel_rfl) (by simp) ?_
          refine (AllReady.cons rfl (fun K hK => ?_) AllReady.nil)
          go_simp
          refine hK _ _ ?_
          clear hK K
          refine wpAny_done (by kernel_rfl) ?_ _
          rotate_left
          go_simp
          refine hK _ _ ?_
          clear hK K
          refine wpAny_ready (rs := [1, 20]) (by kernel_rfl) (by simp) ?_
          refine (AllReady.cons rfl (fun K hK => ?_) (AllReady.cons rfl (fun K hK => ?_) AllReady.nil))
          refine step_convB (by rfl) 47 9 (.tmp 52) rfl (.string u) (HC4.out (v0.alloc (.cells #[.int .u8 (ub x)] 5)) (V0.out.alloc V0.out.size _)) ?_
          refine hK _ _ ?_
          clear hK K
          refine wpAny_ready (rs := [20]) (by kernel_rfl) (by simp) ?_
          refine (AllReady.cons rfl (fun K hK => ?_) AllReady.nil)
          go_simp
          refine hK _ _ ?_
          clear hK K
          refine wpAny_ready (rs := [21]) (by kernel_rfl) (by simp) ?_
          refine (AllReady.cons rfl (fun K hK => ?_) AllReady.nil)
          go_simp
          refine hK _ _ ?_
          clear hK K
          refine wpAny_ready (rs := [22]) (by kernel_rfl) (by simp) ?_
          refine (AllReady.cons rfl (fun K hK => ?_) AllReady.nil)
          go_simp
          refine hK _ _ ?_
          clear hK K
          refine wpAny_done (by kernel_rfl) ?_ _
          rotate_left
          go_simp
          refine hK _ _ ?_
          clear hK K
          refine wpAny_ready (rs := [1]) (by kernel_rfl) (by simp) ?_
          refine (AllReady.cons rfl (fun K hK => ?_) AllReady.nil)
          refine step_convB (by rfl) 47 9 (.tmp 52) rfl (.string u) (HC4.out (v0.alloc (.cells #[.int .u8 (ub x)] 5)) (V0.out.alloc V0.out.size _)) ?_
          refine hK _ _ ?_
          clear hK K
          refine wpAny_ready (rs := [21]) (by kernel_rfl) (by simp) ?_
          refine (AllReady.cons rfl (fun K hK => ?_) AllReady.nil)
          go_simp
          refine hK _ _ ?_
          clear hK K
          refine wpAny_ready (rs := [22]) (by kernel_rfl) (by simp) ?_
          refine (AllReady.cons rfl (fun K hK => ?_) AllReady.nil)
          go_simp
          refine hK _ _ ?_
          clear hK K
          refine wpAny_done (by kernel_rfl) ?_ _
          rotate_left
          all_goals
            go_wp2
            go_meet
            exact ⟨_, rfl, rfl, rfl, ((L4.out.trans (V0.out.mono L4.out.size)).alloc (L4.out.trans (V0.out.mono L4.out.size)).size _).alloc ((L4.out.trans (V0.out.mono L4.out.size)).alloc (L4.out.trans (V0.out.mono L4.out.size)).size _).size _, (by have h := Blk.new (v0.alloc (.cells #[.int .u8 (ub x)] 5)) 9 [.string u, .string (a1 ++ a2), .string (a1 ++ bb ++ a3)]; rw [hsz] at h; exact h)⟩
        case rest =>
          obtain ⟨g3, rfl, rfl, rfl, hlc, hkc⟩ := hcut
          have LC := Lib.hid hlc
          have hx3 : ∀ w, Below wc.heap.size wc w → ∀ j : Nat, j < 3 → ∃ y : ByteArray, w.cell? ⟨g3, j, none⟩ = some (.string y) ∧ y.size ≤ 2300 := fun w hw j hj => by
            have hk := hkc.below hw
            have z0 := Y0.out
            have z1 := Y1.out
            have z2 := Y2.out
            rcases j with _ | _ | _ | j
            · exact ⟨u, hk.cell 0 _ rfl, by omega⟩
            · exact ⟨_, hk.cell 1 _ rfl, by omega⟩
            · exact ⟨_, hk.cell 2 _ rfl, by omega⟩
            · omega
          have HX := Lib.hid hx3
          clear hlc hkc hx3 Y0 Y1 Y2 HC4 HBB P4 L4 PL KLT SZ
          go_upto_region 11 with fail
          as_aux_lemma =>
            go_loopw [75] (fun i wx => ∃ j : Nat, j ≤ 3 ∧ i = .int .i64 j ∧ Below wc.heap.size wc wx) (fun i _ => 3 - (intOf i).toNat)
            case atStart => exact ⟨0, Nat.zero_le _, rfl, Below.refl _ _⟩
            case round =>
              obtain ⟨j, hj, rfl, hbj⟩ := hrel
              have BJ := Lib.hid hbj
              have LJ := Lib.hid (LC.out.trans (hbj.mono LC.out.size))
              have HGJ := Lib.hid (HG.out.below LJ.out)
              by_cases hlt : j < 3
              · have j1 : (j : Int) < 3 := by omega
                obtain ⟨y, hcell, hyz⟩ := HX.out _ BJ.out j hlt
                have HLT := Lib.hid hlt
                have cG := fun w hw => treeGet_any w y y.data.toList rfl (by omega) hw
                have cR := fun w => rgetTree_any w y y.data.toList rfl (by omega)
                unfold GetTPost at cG
                unfold RGetTPost at cR
                cases hgt : getT y.data.toList with
                | none =>
                  rw [hgt] at cG cR
                  simp only at cG cR
                  have cP := fun w => treePut_any w none 0 0 [] (src_none w) (by decide) (fun e he => absurd he List.not_mem_nil)
                  have e0 : putV [] = .tuple #[.string ⟨#[]⟩, .bool true] := rfl
                  rw [e0] at cP
                  have CG := Lib.hid cG
                  have CR := Lib.hid cR
                  have CP := Lib.hid cP
                  clear cG cR cP e0 hgt hyz hlt hj hbj
                  as_aux_lemma =>
                    go_wp2_with (first
                      | (go_at_call 24; refine (CG.out _ HGJ.out).mono ?_; rintro e w4 ⟨rfl, hb⟩; have B4 := Lib.hid (BJ.out.trans (hb.mono BJ.out.size)); clear hb)
                      | (go_at_call 25; refine (CR.out _).mono ?_; rintro e w5 ⟨rfl, hb⟩; have B5 := Lib.hid (B4.out.trans (hb.mono B4.out.size)); clear hb)
                      | (go_at_call 26; refine (entries_same _ none none 0 0 0 [] (src_none _) (src_none _) (by decide) (by decide) (by decide)).mono ?_; rintro e w6 ⟨rfl, hb⟩; have B6 := Lib.hid (B5.out.trans (hb.mono B5.out.size)); clear hb)
                      | (go_at_call 23; refine (CP.out _).mono ?_; rintro e w7 ⟨rfl, hb⟩; have B7 := Lib.hid (B6.out.trans (hb.mono B6.out.size)); clear hb))
                    go_roundw
                    case measure => exact meas_step 3 j HLT.out
                    case rel => exact ⟨j + 1, HLT.out, by go_num, B7.out⟩
                | some ys =>
                  rw [hgt] at cG cR
                  simp only at cG cR
                  have hyl := mayT_len (getT_may hgt)
                  obtain ⟨hpv, hnf⟩ := putV_back hgt y rfl
                  have cP := fun w A c (hs : Src w 34 A ys.length (entE.row ys)) => treePut_any w A ys.length c ys hs (by omega) hnf
                  rw [hpv] at cP
                  have CG := Lib.hid cG
                  have CR := Lib.hid cR
                  have CP := Lib.hid cP
                  have YL := Lib.hid hyl
                  obtain ⟨yn, hyn⟩ : ∃ yn, yn = ys.length := ⟨_, rfl⟩
                  rw [← hyn] at CG CR YL CP
                  have hyy : (y.toList == y.toList) = true := beq_self_eq_true _
                  have hyy2 : (y.toList != y.toList) = false := bne_self_eq_false _
                  clear cG cR cP hgt hyz hlt hj hbj hyl hyn hpv hnf
                  as_aux_lemma =>
                    go_wp2_with (first
                      | (go_at_call 24; refine (CG.out _ HGJ.out).mono ?_; rintro e w4 ⟨A4, c4, rfl, hr, hb⟩; have R4 := Lib.hid hr; have B4 := Lib.hid (BJ.out.trans (hb.mono BJ.out.size)); clear hr hb)
                      | (go_at_call 25; refine (CR.out _).mono ?_; rintro e w5 ⟨A5, c5, rfl, hr, hb⟩; have R5 := Lib.hid hr; have S4 := Lib.hid (R4.out.below hb); have B5 := Lib.hid (B4.out.trans (hb.mono B4.out.size)); clear hr hb)
                      | (go_at_call 26; refine (entries_same _ A4 A5 yn c4 c5 ys (S4.out.src (entE.row_one _)) (R5.out.src (entE.row_one _)) (Nat.le_trans YL.out (by decide)) (rowCap S4.out) (rowCap R5.out)).mono ?_; rintro e w6 ⟨rfl, hb⟩; have S6 := Lib.hid (S4.out.below hb); have B6 := Lib.hid (B5.out.trans (hb.mono B5.out.size)); clear hb)
                      | (go_at_call 23; refine (CP.out _ A4 c4 (S6.out.src (entE.row_one _))).mono ?_; rintro e w7 ⟨rfl, hb⟩; have B7 := Lib.hid (B6.out.trans (hb.mono B6.out.size)); clear hb))
                    go_roundw
                    case measure => exact meas_step 3 j HLT.out
                    case rel => exact ⟨j + 1, HLT.out, by go_num, B7.out⟩
              · have j1 : ¬ ((j : Int) < 3) := by omega
                clear hlt hj hbj BJ HX
                as_aux_lemma =>
                  go_wp2
                  go_ret
                  exact ⟨rfl, LJ.out⟩
end Go.Proofs.YticcianbphljpaaGreatDoor
