/- tree.Name, tree.May; the document's. tree.May, the document's MayTree: may entries be a tree's? tree.Find: the entry of a name, where it stands. tree.Path: is one of a path's parts no name? The document's answer for a tree's bytes: Tree. -/
import Derived.Test.YtcomibocajjhoaaGreatDoorNm
import Derived.Test.YtcomibocajjhoaaGreatDoorP7x
import Derived.Test.YtcomibocajjhoaaGreatDoorSf
import Derived.Shelf.SlicesQ.IndexFunc
namespace Go.Proofs.YtcomibocajjhoaaGreatDoor
open Go.RowKit
theorem nlet_pred (w : World) : PredAt Tryz.prog 41 #[] (fun c : UInt8 => Value.int .u8 (ub c)) (fun c => !letterB c) w := fun W c _ =>
  (nlet_any W c).mono fun _ _ ⟨he, hw⟩ => ⟨he, 0, by rw [hw]; rfl⟩
theorem nameSearch (w : World) (b n c : Nat) (l : List UInt8) (hs : Src w 1 (some ⟨b, 0, none⟩) n (Bs l)) (hn : n ≤ 9223372036854775807) :
    Calls Tryz.prog 40 #[.slice (some ⟨b, 0, none⟩) n c, .func (.func 41) #[] #[]] w fun e w' => e = .returned (.bool (!l.all letterB)) ∧ ∃ q, w' = w.drewN q := by
  have hl : l.length = n := by have := hs.1; simpa using this
  have := AnyE.slices_ContainsFunc Tryz.hasFuncB (fun c : UInt8 => Value.int .u8 (ub c)) (fun c => !letterB c) 41 #[] (enters_of Tryz.func41 (by kernel_rfl) rfl) b 0 n c l w (nlet_pred w) (by omega) (by omega) (fun j hj => by
    obtain ⟨ad, ha, hx⟩ := hs.2.1 (by omega)
    obtain rfl := Option.some.inj ha
    have h1 := hx j _ (Bs_at l j hj)
    rw [addr_row _ rfl] at h1
    rw [h1, getElem!_pos l j hj]
    simp [gb, List.getD_eq_getElem?_getD, hj])
  subst hl
  rw [nameAny] at this
  exact this
set_option maxRecDepth 20000 in
set_option maxHeartbeats 1600000 in
theorem treeName_any (W : World) (s : ByteArray) (l : List UInt8) (hl : l = s.data.toList) (hs : s.size ≤ 9223372036854775807) : Calls Tryz.prog 12 #[.string s] W fun e W' => e = .returned (.bool (nameB l)) ∧ Below W.heap.size W W' := by
  rw [nameB_eq]
  have hst : s.toList = l := by rw [ByteArray.toList_eq, hl]
  have hll : l.length = s.size := by rw [hl, ← ba_size]
  have s9 : (s.size : Int) ≤ 9223372036854775807 := by omega
  obtain ⟨a, ha⟩ : ∃ a : Bool, a = (l == [46]) := ⟨_, rfl⟩
  obtain ⟨b, hb⟩ : ∃ b : Bool, b = (l == [46, 46]) := ⟨_, rfl⟩
  have e1 : (s.toList == [46]) = a := by rw [hst, ha]
  have e2 : (s.toList == [46, 46]) = b := by rw [hst, hb]
  rw [← ha, ← hb, hll]
  obtain ⟨c2, w2, hcv, hsrc, hbw, _, _⟩ := conv_bytes W s
  rw [← hl] at hsrc
  have hc := nameSearch w2 _ _ c2 l hsrc hs
  obtain ⟨q, hq⟩ : ∃ q, q = l.all letterB := ⟨_, rfl⟩
  rw [← hq] at hc ⊢
  have CV := Lib.hid hcv
  have HC := Lib.hid hc
  have HB := Lib.hid hbw
  have E1 := Lib.hid e1
  have E2 := Lib.hid e2
  clear hl hst hll hs ha hb e1 e2 hcv hsrc hbw hc hq
  go_enter Tryz.func12, Tryz.ntmps12
  go_upto_region 2 with (first
    | (refine wpl_convw rfl 9 24 _ rfl _ rfl _ w2 CV.out ?_)
    | (go_at_call 40; refine HC.out.mono ?_; rintro e w' ⟨rfl, q', rfl⟩))
  have L := Lib.hid (below_drewN' HB.out q')
  generalize w2.drewN q' = w3 at L ⊢
  clear HC CV HB
  have e1 := E1.out
  have e2 := E2.out
  cases q
  all_goals
    go_wp2
    all_goals
      go_ret
      refine ⟨?_, L.out⟩
      show Ending.returned (Value.bool _) = Ending.returned (Value.bool _)
      refine congrArg (fun b => Ending.returned (Value.bool b)) ?_
      unfold nameE
      rw [Bool.eq_iff_iff]
      simp only [Bool.true_and, Bool.false_and, Bool.and_eq_true, decide_eq_true_eq, Bool.not_eq_true']
      first | done | omega | (cases a <;> cases b <;> simp_all <;> omega)
end Go.Proofs.YtcomibocajjhoaaGreatDoor
namespace Go.Proofs.YtcomibocajjhoaaGreatDoor
open Go.RowKit
/-- Rows of entries with names that are not too long for memory. -/
def NamesFit (l : List Ent) : Prop := ∀ e ∈ l, e.nm.length ≤ maxLen
set_option maxRecDepth 20000 in
set_option maxHeartbeats 3200000 in
theorem treeMay_any (W : World) (A : Option Addr) (n c : Nat) (l : List Ent) (hs : Src W entE.k A n (entE.row l)) (hn : n ≤ 1099511627776) (hf : NamesFit l) :
    Calls Tryz.prog 24 #[.slice A n c] W fun e W' => e = .returned (.bool (mayT l)) ∧ Below W.heap.size W W' := by
  have LN := Lib.hid (entE.src_len hs)
  have S0 := Lib.hid hs
  have HF := Lib.hid hf
  have n9 : (n : Int) ≤ 1099511627776 := by omega
  have HN := Lib.hid hn
  clear hs hf hn
  go_enter Tryz.func24, Tryz.ntmps24
  go_wp2
  go_loopw [7] (fun i wr => ∃ k : Nat, k ≤ n ∧ i = .int .i64 k ∧ Below W.heap.size W wr ∧ ∀ j, j < k → entOk l j = true) (fun i _ => n - (intOf i).toNat)
  case atStart => exact ⟨0, by omega, rfl, Below.refl _ _, fun j h => by omega⟩
  case round =>
    obtain ⟨k, hk, rfl, hb, hall⟩ := hrel
    by_cases hlt : k < n
    · have hln := LN.out
      have k1 : (k : Int) < (n : Int) := by omega
      have BR := Lib.hid hb
      have SR := Lib.hid (entE.src_below S0.out hb)
      obtain ⟨_, b, o, rfl, hc⟩ := entE.src_at SR.out (by omega)
      have c1 : ∀ j v, (encE l[k]!)[j]? = some v → wr.cell? ((⟨b, o + k * 34, none⟩ : Addr).add j) = some v := entE.at_elem (hc k hlt)
      obtain ⟨e, he⟩ : ∃ e, e = l[k]! := ⟨_, rfl⟩
      rw [← he] at c1
      have HE := Lib.hid he
      have i1 := infoE e
      have I1 := Lib.hid i1
      have C1 := Lib.hid c1
      clear hc hb c1 i1 he
      go_upto_region 4 with (first
        | (refine wpl_loadS rfl 39 (.tmp 10) rfl ⟨b, o + k * 34, none⟩ rfl (encE e) Tryz.isAgg39 I1.out C1.out ?_)
        | (refine wpl_storeS rfl 39 (.tmp 4) _ rfl wr.heap.size (encE e) rfl rfl 39 _ (Blk.new wr _ _) I1.out (by rw [show (encE e).length = 34 from entE.len _]; rfl) (entE.one _) ?_))
      generalize hw1 : World.setRow _ _ _ = w1
      have E1 : Hid (Below wr.heap.size wr w1) := Lib.hid (by rw [← hw1]; exact (ent_laid wr e).1)
      have K1 : Hid (Blk w1 wr.heap.size 39 (encE e)) := Lib.hid (by rw [← hw1]; exact (ent_laid wr e).2)
      clear hw1
      have hnm : e.nm.length ≤ maxLen := by rw [HE.out]; exact HF.out _ (by rw [getElem!_pos l k (by omega)]; exact List.getElem_mem _)
      have hok : entOk l k = (nameB e.nm && (decide (k = 0) || Op.bytesLess l[k - 1]!.nm e.nm)) := by unfold entOk; rw [← HE.out]
      obtain ⟨sn, hsn⟩ : ∃ sn : ByteArray, sn = ⟨e.nm.toArray⟩ := ⟨_, rfl⟩
      obtain ⟨sp, hsp⟩ : ∃ sp : ByteArray, sp = ⟨l[k - 1]!.nm.toArray⟩ := ⟨_, rfl⟩
      have e1 : sn.toList = e.nm := by rw [hsn, ByteArray.toList_eq]
      have e2 : sp.toList = l[k - 1]!.nm := by rw [hsp, ByteArray.toList_eq]
      have cN : ∀ w, Calls Tryz.prog 12 #[.string sn] w fun e' W' => e' = .returned (.bool (nameB e.nm)) ∧ Below w.heap.size w W' := fun w => treeName_any w sn e.nm (by rw [hsn]) (by rw [hsn, ba_size]; simpa [maxLen] using hnm)
      have kn : ∀ s : Ext w1, s.at_.cell? ⟨wr.heap.size, 0, none⟩ = some (.string sn) := fun s => by rw [hsn]; exact (K1.out.below s.below).cell 0 _ rfl
      have kp : 0 < k → ∀ s : Ext w1, s.at_.cell? ⟨b, o + (k - 1) * 34, none⟩ = some (.string sp) := fun h s => by
        obtain ⟨_, b3, o3, e3, ct3⟩ := entE.src_at (entE.src_below SR.out (E1.out.trans (s.below.mono E1.out.size))) (by omega)
        injection e3 with e3
        injection e3 with e4 e5 _
        subst e4; subst e5
        rw [hsp]
        have := ct3 (k - 1) (by omega) 0 (.string ⟨l[k - 1]!.nm.toArray⟩) rfl
        exact this
      have miss : entOk l k = false → mayT l = false := mayT_miss (by omega)
      have next : entOk l k = true → ∀ j, j < k + 1 → entOk l j = true := fun h j hj => by
        rcases Nat.lt_or_ge j k with h1 | h1
        · exact hall j h1
        · rw [show j = k by omega]; exact h
      have hle : k + 1 ≤ n := by omega
      have MISS := Lib.hid miss
      have NEXT := Lib.hid next
      have HLE := Lib.hid hle
      rw [← e1, ← e2] at hok
      have L1 := Lib.hid (BR.out.trans (E1.out.mono BR.out.size))
      obtain ⟨lt, hlt'⟩ : ∃ lt, lt = Op.bytesLess sp.toList sn.toList := ⟨_, rfl⟩
      rw [← hlt', e1] at hok
      have hlq := hlt'.symm
      generalize nameB e.nm = q at cN hok
      have CN := Lib.hid cN
      clear hnm hsn hsp e1 e2 cN miss next hall hle hlt'
      generalize wr.heap.size = g at kn ⊢
      have hemp := ext_nonempty w1
      by_cases h0 : k = 0
      · subst h0
        clear kp hlq
        cases q
        · have OK := Lib.hid (MISS.out hok)
          clear hok
          refine wp_region_ext (by kernel_rfl) (by kernel_rfl) ?_
          quiet_step (fail)
          repeat (go_big_quiet_step ((go_at_call 12; exact Ext.call (CN.out _))))
          refine wpQuiet_nil ?_
          rintro _ ⟨s9, rfl⟩
          go_wp2
          go_ret
          exact ⟨by rw [OK.out]; rfl, L1.out.trans (s9.below.mono L1.out.size)⟩
        · have OK := Lib.hid (NEXT.out hok)
          clear hok
          refine wp_region_ext (by kernel_rfl) (by kernel_rfl) ?_
          quiet_step (fail)
          repeat (go_big_quiet_step ((go_at_call 12; exact Ext.call (CN.out _))))
          refine wpQuiet_nil ?_
          rintro _ ⟨s9, rfl⟩
          go_wp2
          go_roundw
          case measure => simp [intOf]; have := HLE.out; omega
          case rel => exact ⟨1, HLE.out, by go_num, L1.out.trans (s9.below.mono L1.out.size), OK.out⟩
      · have kp' := kp (by omega)
        have hp1 : (0 : Int) < (k : Int) := by omega
        have kw : wrap64 ((k : Int) - 1) = ((k - 1 : Nat) : Int) := by unfold wrap64; omega
        have kn1 : 0 < k := by omega
        have kb : ((k - 1 : Nat) : Int) < (n : Int) := by omega
        rw [decide_eq_false h0, Bool.false_or] at hok
        clear kp h0
        cases q
        · have OK := Lib.hid (MISS.out hok)
          clear hok
          refine wp_region_ext (by kernel_rfl) (by kernel_rfl) ?_
          quiet_step (fail)
          repeat (go_big_quiet_step ((go_at_call 12; exact Ext.call (CN.out _))))
          refine wpQuiet_nil ?_
          rintro _ ⟨s9, rfl⟩
          go_wp2
          go_ret
          exact ⟨by rw [OK.out]; rfl, L1.out.trans (s9.below.mono L1.out.size)⟩
        · cases lt
          · have OK := Lib.hid (MISS.out hok)
            clear hok
            refine wp_region_ext (by kernel_rfl) (by kernel_rfl) ?_
            quiet_step (fail)
            repeat (go_big_quiet_step ((go_at_call 12; exact Ext.call (CN.out _))))
            refine wpQuiet_nil ?_
            rintro _ ⟨s9, rfl⟩
            go_wp2
            go_ret
            exact ⟨by rw [OK.out]; rfl, L1.out.trans (s9.below.mono L1.out.size)⟩
          · have OK := Lib.hid (NEXT.out hok)
            clear hok
            refine wp_region_ext (by kernel_rfl) (by kernel_rfl) ?_
            quiet_step (fail)
            repeat (go_big_quiet_step ((go_at_call 12; exact Ext.call (CN.out _))))
            refine wpQuiet_nil ?_
            rintro _ ⟨s9, rfl⟩
            go_wp2
            go_roundw
            case measure => simp [intOf]; have := HLE.out; omega
            case rel => exact ⟨k + 1, HLE.out, by go_num, L1.out.trans (s9.below.mono L1.out.size), OK.out⟩
    · have : k = n := by omega
      subst this
      have hm := mayT_all (es := l) (fun i hi => hall i (by have := LN.out; omega))
      rw [LN.out] at hm
      have HM := Lib.hid hm
      have BR := Lib.hid hb
      clear hall hm hb
      go_wp2
      go_ret
      refine ⟨?_, BR.out⟩
      rw [HM.out]
      show Ending.returned (Value.bool _) = Ending.returned (Value.bool _)
      refine congrArg (fun b => Ending.returned (Value.bool b)) ?_
      rw [Bool.eq_iff_iff]
      simp only [decide_eq_true_eq]
      omega
set_option maxRecDepth 20000 in
set_option maxHeartbeats 3200000 in
theorem refMayTree_any (W : World) (A : Option Addr) (n c : Nat) (l : List Ent) (hs : Src W entE.k A n (entE.row l)) (hn : n ≤ 1099511627776) (hf : NamesFit l) :
    Calls Tryz.prog 28 #[.slice A n c] W fun e W' => e = .returned (.bool (mayT l)) ∧ Below W.heap.size W W' := by
  have LN := Lib.hid (entE.src_len hs)
  have S0 := Lib.hid hs
  have HF := Lib.hid hf
  have n9 : (n : Int) ≤ 1099511627776 := by omega
  have HN := Lib.hid hn
  clear hs hf hn
  go_enter Tryz.func28, Tryz.ntmps28
  go_wp2
  go_loopw [3] (fun i wr => ∃ k : Nat, k ≤ n ∧ i = .int .i64 k ∧ Below W.heap.size W wr ∧ ∀ j, j < k → entOk l j = true) (fun i _ => n - (intOf i).toNat)
  case atStart => exact ⟨0, by omega, rfl, Below.refl _ _, fun j h => by omega⟩
  case round =>
    obtain ⟨k, hk, rfl, hb, hall⟩ := hrel
    by_cases hlt : k < n
    · have hln := LN.out
      have k1 : (k : Int) < (n : Int) := by omega
      have BR := Lib.hid hb
      have SR := Lib.hid (entE.src_below S0.out hb)
      obtain ⟨_, b, o, rfl, hc⟩ := entE.src_at SR.out (by omega)
      have c1 : ∀ j v, (encE l[k]!)[j]? = some v → wr.cell? ((⟨b, o + k * 34, none⟩ : Addr).add j) = some v := entE.at_elem (hc k hlt)
      obtain ⟨e, he⟩ : ∃ e, e = l[k]! := ⟨_, rfl⟩
      rw [← he] at c1
      have HE := Lib.hid he
      have C1 := Lib.hid c1
      clear hc hb c1 he
      go_upto_region 4 with fail
      have hnm : e.nm.length ≤ maxLen := by rw [HE.out]; exact HF.out _ (by rw [getElem!_pos l k (by omega)]; exact List.getElem_mem _)
      have hok : entOk l k = (nameB e.nm && (decide (k = 0) || Op.bytesLess l[k - 1]!.nm e.nm)) := by unfold entOk; rw [← HE.out]
      obtain ⟨sn, hsn⟩ : ∃ sn : ByteArray, sn = ⟨e.nm.toArray⟩ := ⟨_, rfl⟩
      obtain ⟨sp, hsp⟩ : ∃ sp : ByteArray, sp = ⟨l[k - 1]!.nm.toArray⟩ := ⟨_, rfl⟩
      have e1 : sn.toList = e.nm := by rw [hsn, ByteArray.toList_eq]
      have e2 : sp.toList = l[k - 1]!.nm := by rw [hsp, ByteArray.toList_eq]
      have cN : ∀ w, Calls Tryz.prog 21 #[.string sn] w fun e' W' => e' = .returned (.bool (nameB e.nm)) ∧ Below w.heap.size w W' := fun w => (refName_any w sn e.nm (by rw [hsn]) (by rw [hsn, ba_size]; simpa [maxLen] using hnm)).mono fun _ _ ⟨h1, h2⟩ => ⟨h1, by rw [h2]; exact Below.refl _ _⟩
      have kn : ∀ s : Ext wr, s.at_.cell? ⟨b, o + k * 34, none⟩ = some (.string sn) := fun s => by
        obtain ⟨_, b3, o3, e3, ct3⟩ := entE.src_at (entE.src_below SR.out s.below) (by omega)
        injection e3 with e3
        injection e3 with e4 e5 _
        subst e4; subst e5
        rw [hsn, HE.out]
        have := ct3 k hlt 0 (.string ⟨l[k]!.nm.toArray⟩) rfl
        exact this
      have kp : 0 < k → ∀ s : Ext wr, s.at_.cell? ⟨b, o + (k - 1) * 34, none⟩ = some (.string sp) := fun h s => by
        obtain ⟨_, b3, o3, e3, ct3⟩ := entE.src_at (entE.src_below SR.out s.below) (by omega)
        injection e3 with e3
        injection e3 with e4 e5 _
        subst e4; subst e5
        rw [hsp]
        have := ct3 (k - 1) (by omega) 0 (.string ⟨l[k - 1]!.nm.toArray⟩) rfl
        exact this
      have miss : entOk l k = false → mayT l = false := mayT_miss (by omega)
      have next : entOk l k = true → ∀ j, j < k + 1 → entOk l j = true := fun h j hj => by
        rcases Nat.lt_or_ge j k with h1 | h1
        · exact hall j h1
        · rw [show j = k by omega]; exact h
      have hle : k + 1 ≤ n := by omega
      have MISS := Lib.hid miss
      have NEXT := Lib.hid next
      have HLE := Lib.hid hle
      rw [← e1, ← e2] at hok
      have L1 := BR
      obtain ⟨lt, hlt'⟩ : ∃ lt, lt = Op.bytesLess sp.toList sn.toList := ⟨_, rfl⟩
      rw [← hlt', e1] at hok
      have hlq := hlt'.symm
      generalize nameB e.nm = q at cN hok
      have CN := Lib.hid cN
      clear hnm hsn hsp e1 e2 cN miss next hall hle hlt'
      have hemp := ext_nonempty wr
      by_cases h0 : k = 0
      · subst h0
        have kn' : ∀ s : Ext wr, s.at_.cell? ⟨b, o, none⟩ = some (.string sn) := kn
        clear kp hlq kn
        cases q
        · have OK := Lib.hid (MISS.out hok)
          clear hok
          refine wp_region_ext (by kernel_rfl) (by kernel_rfl) ?_
          quiet_step (fail)
          repeat (go_big_quiet_step ((go_at_call 21; exact Ext.call (CN.out _))))
          refine wpQuiet_nil ?_
          rintro _ ⟨s9, rfl⟩
          go_wp2
          go_ret
          exact ⟨by rw [OK.out]; rfl, L1.out.trans (s9.below.mono L1.out.size)⟩
        · have OK := Lib.hid (NEXT.out hok)
          clear hok
          refine wp_region_ext (by kernel_rfl) (by kernel_rfl) ?_
          quiet_step (fail)
          repeat (go_big_quiet_step ((go_at_call 21; exact Ext.call (CN.out _))))
          refine wpQuiet_nil ?_
          rintro _ ⟨s9, rfl⟩
          go_wp2
          go_roundw
          case measure => simp [intOf]; have := HLE.out; omega
          case rel => exact ⟨1, HLE.out, by go_num, L1.out.trans (s9.below.mono L1.out.size), OK.out⟩
      · have kp' := kp (by omega)
        have hp1 : (0 : Int) < (k : Int) := by omega
        have kw : wrap64 ((k : Int) - 1) = ((k - 1 : Nat) : Int) := by unfold wrap64; omega
        have kn1 : 0 < k := by omega
        have kb : ((k - 1 : Nat) : Int) < (n : Int) := by omega
        rw [decide_eq_false h0, Bool.false_or] at hok
        clear kp h0
        cases q
        · have OK := Lib.hid (MISS.out hok)
          clear hok
          refine wp_region_ext (by kernel_rfl) (by kernel_rfl) ?_
          quiet_step (fail)
          repeat (go_big_quiet_step ((go_at_call 21; exact Ext.call (CN.out _))))
          refine wpQuiet_nil ?_
          rintro _ ⟨s9, rfl⟩
          go_wp2
          go_ret
          exact ⟨by rw [OK.out]; rfl, L1.out.trans (s9.below.mono L1.out.size)⟩
        · cases lt
          · have OK := Lib.hid (MISS.out hok)
            clear hok
            refine wp_region_ext (by kernel_rfl) (by kernel_rfl) ?_
            quiet_step (fail)
            repeat (go_big_quiet_step ((go_at_call 21; exact Ext.call (CN.out _))))
            refine wpQuiet_nil ?_
            rintro _ ⟨s9, rfl⟩
            go_wp2
            go_ret
            exact ⟨by rw [OK.out]; rfl, L1.out.trans (s9.below.mono L1.out.size)⟩
          · have OK := Lib.hid (NEXT.out hok)
            clear hok
            refine wp_region_ext (by kernel_rfl) (by kernel_rfl) ?_
            quiet_step (fail)
            repeat (go_big_quiet_step ((go_at_call 21; exact Ext.call (CN.out _))))
            refine wpQuiet_nil ?_
            rintro _ ⟨s9, rfl⟩
            go_wp2
            go_roundw
            case measure => simp [intOf]; have := HLE.out; omega
            case rel => exact ⟨k + 1, HLE.out, by go_num, L1.out.trans (s9.below.mono L1.out.size), OK.out⟩
    · have : k = n := by omega
      subst this
      have hm := mayT_all (es := l) (fun i hi => hall i (by have := LN.out; omega))
      rw [LN.out] at hm
      have HM := Lib.hid hm
      have BR := Lib.hid hb
      clear hall hm hb
      go_wp2
      go_ret
      refine ⟨?_, BR.out⟩
      rw [HM.out]
      show Ending.returned (Value.bool _) = Ending.returned (Value.bool _)
      refine congrArg (fun b => Ending.returned (Value.bool b)) ?_
      rw [Bool.eq_iff_iff]
      simp only [decide_eq_true_eq]
      omega
end Go.Proofs.YtcomibocajjhoaaGreatDoor
namespace Go.Proofs.YtcomibocajjhoaaGreatDoor
open Go.RowKit
set_option maxRecDepth 20000 in
set_option maxHeartbeats 800000 in
theorem findOne_any (W : World) (e : Ent) (p : Nat) (s : ByteArray) (l : List UInt8) (hl : l = s.data.toList) (hp : Blk W p 9 [.string s]) :
    Calls Tryz.prog 48 #[.agg (encE e).toArray, .pointer (some ⟨p, 0, none⟩)] W fun r W' => r = .returned (.bool (decide (e.nm = l))) ∧ Below W.heap.size W W' := by
  obtain ⟨w1, hw1⟩ : ∃ w1, w1 = W.alloc (.cells (encE e).toArray 39) := ⟨_, rfl⟩
  have hb := (Below.refl W.heap.size W).alloc (Nat.le_refl _) (.cells (encE e).toArray 39)
  have hB := Blk.new W 39 (encE e)
  rw [← hw1] at hb hB
  obtain ⟨sn, hsn⟩ : ∃ sn : ByteArray, sn = ⟨e.nm.toArray⟩ := ⟨_, rfl⟩
  have c1 : w1.cell? ⟨W.heap.size, 0, none⟩ = some (.string sn) := by rw [hsn]; exact hB.cell 0 _ rfl
  have c2 : w1.cell? ⟨p, 0, none⟩ = some (.string s) := (hp.below hb).cell 0 _ rfl
  obtain ⟨q, hq⟩ : ∃ q, q = (sn.toList == s.toList) := ⟨_, rfl⟩
  have hd : decide (e.nm = l) = q := by
    rw [hq, hsn, hl, ByteArray.toList_eq, ByteArray.toList_eq]
    by_cases h : e.nm = s.data.toList
    · rw [decide_eq_true h]; simp [h]
    · rw [decide_eq_false h]; symm; simpa using h
  rw [hd]
  have hq' := hq.symm
  have HB := Lib.hid hb
  clear hq hd hsn hB hb hp hl
  go_enter Tryz.func48, Tryz.ntmps48
  go_upto_region 1 with fail
  rw [← hw1]
  clear hw1
  go_wp2
  go_ret
  exact ⟨rfl, HB.out⟩
theorem find_pred (w : World) (p : Nat) (s : ByteArray) (l : List UInt8) (hl : l = s.data.toList) (hp : Blk w p 9 [.string s]) :
    PredBelow Tryz.prog 48 #[.pointer (some ⟨p, 0, none⟩)] (fun e => .agg (encE e).toArray) (fun e => decide (e.nm = l)) w := fun W e hb =>
  (findOne_any W e p s l hl (hp.below hb)).mono fun _ _ ⟨h1, h2⟩ => ⟨h1, hb.trans (h2.mono hb.size)⟩
/-- Where the name stands: the search's answer. -/
theorem findAt_any (w : World) (p : Nat) (s : ByteArray) (l : List UInt8) (hl : l = s.data.toList) (hp : Blk w p 9 [.string s]) (A : Option Addr) (n c : Nat) (es : List Ent) (hs : Src w entE.k A n (entE.row es)) (hn : n ≤ 1099511627776) (h0 : 0 < n) :
    Calls Tryz.prog 47 #[.slice A n c, .func (.func 48) #[] #[.pointer (some ⟨p, 0, none⟩)]] w fun r w' =>
      r = .returned (.int .i64 (Lib.idxBy (fun _ e => decide (e.nm = l)) es default)) ∧ Below w.heap.size w w' := by
  obtain ⟨hl2, b, o, rfl, hc⟩ := entE.src_at hs h0
  have hb : b < w.heap.size := by
    have h1 := hc 0 h0 0 _ (List.getElem?_eq_getElem (by rw [entE.len]; decide))
    exact World.block_lt_of_cell? w _ h1
  have := AnyQ.slices_IndexFunc Tryz.indexFuncE 34 Tryz.isAgg39 Tryz.sizeOf39 encE entE.len (fun e => decide (e.nm = l)) 48 #[.pointer (some ⟨p, 0, none⟩)] (enters_of Tryz.func48 (by kernel_rfl) rfl) b o n c es w (find_pred w p s l hl hp) (by omega) (by omega) hb (fun j hj => hc j (by omega))
  subst hl2
  rw [List.take_length] at this
  exact this
theorem res_rowS2 {P : Program} {fn : Func} {p q : Tmp} {ty : TypeId} (h : fn.results = #[.cell p ty, .tmp q]) (tmps : Array Value) (w : World) (g : Nat) (t : TypeId) (cs : List Value) (d : TypeDesc)
    (hp : tmps.getD p undef = .pointer (some ⟨g, 0, none⟩)) (hg : Blk w g t cs) (hu : P.underlying ty = some d) (hd : (match d with | .struct _ | .array _ _ => true | _ => false) = true) (hi : (P.info? ty).map (·.size) = some cs.length) :
    (results fn tmps).run P w = .ok (.tuple #[.agg cs.toArray, tmps.getD q undef]) w := by
  have hp' : tmps[p]?.getD undef = .pointer (some ⟨g, 0, none⟩) := by simpa using hp
  simp [results, h, hp', asAddr, run_loadVar_row w g t ty cs.toArray (0, 0) _ hg hu hd (by simpa using hi)]
/-- The entry of a name; an entry of noughts. -/
def findE (es : List Ent) (l : List UInt8) : Ent × Bool := match es.find? (fun e => decide (e.nm = l)) with
  | some e => (e, true)
  | none => (⟨[], false, default⟩, false)
theorem findE_hit (l : List UInt8) : ∀ (es : List Ent) (k : Nat), k < es.length → es[k]!.nm = l → (∀ j, j < k → es[j]!.nm ≠ l) → findE es l = (es[k]!, true)
  | [], k, h, _, _ => by simp at h
  | e :: r, 0, _, h, _ => by
    have h' : e.nm = l := h
    unfold findE
    rw [List.find?_cons_of_pos (by simpa using h')]
    rfl
  | e :: r, k + 1, hk, h, hn => by
    have h' : e.nm ≠ l := hn 0 (by omega)
    have := findE_hit l r k (by simpa using hk) (by simpa using h) (fun j hj => by simpa using hn (j + 1) (by omega))
    unfold findE at this ⊢
    rw [List.find?_cons_of_neg (by simpa using h'), this]
    simp
theorem findE_miss (l : List UInt8) (es : List Ent) (h : ∀ j, j < es.length → es[j]!.nm ≠ l) : findE es l = (⟨[], false, default⟩, false) := by
  unfold findE
  have : es.find? (fun e => decide (e.nm = l)) = none := by
    rw [List.find?_eq_none]
    intro e he
    obtain ⟨j, hj, rfl⟩ := List.getElem_of_mem he
    have := h j hj
    rw [getElem!_pos es j hj] at this
    simpa using this
  rw [this]
theorem first_at (p : Nat → Prop) : ∀ n, (∃ k, k < n ∧ p k) → ∃ k, k < n ∧ p k ∧ ∀ j, j < k → ¬ p j := by
  intro n
  induction n with
  | zero => rintro ⟨k, h, _⟩; omega
  | succ n ih =>
    intro h
    by_cases h1 : ∃ k, k < n ∧ p k
    · obtain ⟨k, a, b, c⟩ := ih h1
      exact ⟨k, by omega, b, c⟩
    · obtain ⟨k, a, b⟩ := h
      have : k = n := by
        rcases Nat.lt_or_ge k n with h2 | h2
        · exact absurd ⟨k, h2, b⟩ h1
        · omega
      subst this
      exact ⟨k, a, b, fun j hj hp => h1 ⟨j, hj, hp⟩⟩
/-- Where it stands, or nowhere. -/
theorem find_cases (es : List Ent) (l : List UInt8) : (∃ k, k < es.length ∧ es[k]!.nm = l ∧ Lib.idxBy (fun _ e => decide (e.nm = l)) es default = (k : Int) ∧ findE es l = (es[k]!, true)) ∨
    (Lib.idxBy (fun _ e => decide (e.nm = l)) es (default : Ent) = -1 ∧ findE es l = (⟨[], false, default⟩, false)) := by
  by_cases h : ∃ k, k < es.length ∧ es[k]!.nm = l
  · obtain ⟨k, h1, h2, h4⟩ := first_at (fun k => es[k]!.nm = l) es.length h
    refine .inl ⟨k, h1, h2, ?_, findE_hit l es k h1 h2 h4⟩
    have := Lib.idxBy_hit (fun _ e => decide (e.nm = l)) es es.length k (default : Ent) h1 (Nat.le_refl _) (decide_eq_true h2) (fun j hj => decide_eq_false (h4 j hj))
    rwa [List.take_length] at this
  · have h4 : ∀ j, j < es.length → es[j]!.nm ≠ l := fun j hj e => h ⟨j, hj, e⟩
    refine .inr ⟨?_, findE_miss l es h4⟩
    have := Lib.idxBy_miss (fun _ e => decide (e.nm = l)) es es.length (default : Ent) (fun j hj => decide_eq_false (h4 j hj))
    rwa [List.take_length] at this
theorem findAt_none (w : World) (A : Option Addr) (c : Nat) (fv : Value) : Calls Tryz.prog 47 #[.slice A 0 c, fv] w fun r w' => r = .returned (.int .i64 (-1)) ∧ Below w.heap.size w w' := by
  go_enter Tryz.func47, Tryz.ntmps47
  go_wp2
  go_loopw [8] (fun i wr => i = .int .i64 0 ∧ Below w.heap.size w wr) (fun _ _ => 0)
  case atStart => exact ⟨rfl, Below.refl _ _⟩
  case round =>
    obtain ⟨rfl, hb⟩ := hrel
    go_wp2
    go_ret
    exact ⟨rfl, hb⟩
theorem findAt_all (w : World) (p : Nat) (s : ByteArray) (l : List UInt8) (hl : l = s.data.toList) (hp : Blk w p 9 [.string s]) (A : Option Addr) (n c : Nat) (es : List Ent) (hs : Src w entE.k A n (entE.row es)) (hn : n ≤ 1099511627776) :
    Calls Tryz.prog 47 #[.slice A n c, .func (.func 48) #[] #[.pointer (some ⟨p, 0, none⟩)]] w fun r w' =>
      r = .returned (.int .i64 (Lib.idxBy (fun _ e => decide (e.nm = l)) es default)) ∧ Below w.heap.size w w' := by
  rcases Nat.eq_zero_or_pos n with h0 | h0
  · subst h0
    have he : es = [] := List.eq_nil_of_length_eq_zero (entE.src_len hs)
    subst he
    exact findAt_none w A c _
  · exact findAt_any w p s l hl hp A n c es hs hn h0
set_option maxRecDepth 20000 in
set_option maxHeartbeats 1600000 in
theorem treeFind_any (W : World) (A : Option Addr) (n c : Nat) (es : List Ent) (hs : Src W entE.k A n (entE.row es)) (hn : n ≤ 1099511627776) (s : ByteArray) (l : List UInt8) (hl : l = s.data.toList) :
    Calls Tryz.prog 18 #[.slice A n c, .string s] W fun r W' => r = .returned (.tuple #[.agg (encE (findE es l).1).toArray, .bool (findE es l).2]) ∧ Below W.heap.size W W' := by
  have hmf : ∀ (fn : Fn) (first cap : Array Value) (w : World), (Instr.makeFunc fn first cap).run Tryz.prog w = .ok (.func fn first cap) w := fun _ _ _ _ => rfl
  obtain ⟨w1, hw1⟩ : ∃ w1, w1 = (W.alloc (.cells #[.string s] 9)).alloc (.cells zeroE.toArray 39) := ⟨_, rfl⟩
  have b1 : Blk w1 W.heap.size 9 [.string s] := by rw [hw1]; exact (Blk.new W 9 [_]).alloc _
  have b2 : Blk w1 (W.heap.size + 1) 39 zeroE := by
    have := Blk.new (W.alloc (.cells #[.string s] 9)) 39 zeroE
    rw [hsz] at this
    rw [hw1]; exact this
  have hb : Below W.heap.size W w1 := by rw [hw1]; exact ((Below.refl _ _).alloc (Nat.le_refl _) _).alloc (by rw [hsz]; omega) _
  have hlow : W.heap.size + 1 < w1.heap.size := b2.lt
  have LN := Lib.hid (entE.src_len hs)
  have S1 := Lib.hid (entE.src_below hs hb)
  have hc := findAt_all w1 W.heap.size s l hl b1 A n c es S1.out hn
  have HC := Lib.hid hc
  have K2 := Lib.hid b2
  have HB := Lib.hid hb
  have FC := Lib.hid (find_cases es l)
  generalize Lib.idxBy (fun _ e => decide (e.nm = l)) es default = z at HC FC
  obtain ⟨fe, hfe⟩ : ∃ fe, fe = findE es l := ⟨_, rfl⟩
  rw [← hfe] at FC ⊢
  clear hs hc b1 b2 hb hl hfe
  go_enter Tryz.func18, Tryz.ntmps18
  go_upto_region 1 with fail
  change Code.wp _ _ _ _ ((W.alloc (.cells #[.string s] 9)).alloc (.cells zeroE.toArray 39))
  rw [← hw1]
  clear hw1
  obtain ⟨gp, hgp⟩ : ∃ gp, gp = W.heap.size := ⟨_, rfl⟩
  obtain ⟨gz, hgz⟩ : ∃ gz, gz = W.heap.size + 1 := ⟨_, rfl⟩
  have hWz : W.heap.size ≤ gz := by omega
  have HWZ := Lib.hid hWz
  rw [← hgp] at HC
  rw [← hgz] at K2 hlow
  rw [← hgz, ← hgp]
  clear hgp hgz hWz hlow
  rcases FC.out with ⟨k, hk, _, hz, hf⟩ | ⟨hz, hf⟩
  · subst hz
    have HF := Lib.hid hf
    have hln := LN.out
    have k0 : ¬ ((k : Int) < 0) := by omega
    have k1 : (k : Int) < (n : Int) := by omega
    have HK := Lib.hid hk
    obtain ⟨_, b, o, rfl, _⟩ := entE.src_at S1.out (by omega)
    have C1 : Hid (∀ w, Below w1.heap.size w1 w → ∀ j v, (encE es[k]!)[j]? = some v → w.cell? ((⟨b, o + k * 34, none⟩ : Addr).add j) = some v) := Lib.hid fun w hw => by
      obtain ⟨_, b3, o3, e3, ct3⟩ := entE.src_at (entE.src_below S1.out hw) (by omega)
      injection e3 with e3
      injection e3 with e4 e5 _
      subst e4; subst e5
      exact entE.at_elem (ct3 k (by omega))
    obtain ⟨e, he⟩ : ∃ e, e = es[k]! := ⟨_, rfl⟩
    rw [← he] at C1 HF
    have I1 := Lib.hid (infoE e)
    clear FC hf hk he hln
    go_wp2_with (first
      | (go_at_call 47; refine HC.out.mono ?_; rintro r w2 ⟨rfl, h2⟩; have B2 := Lib.hid h2; clear h2)
      | (refine wpl_loadS rfl 39 (.tmp 15) rfl ⟨b, o + k * 34, none⟩ rfl (encE e) Tryz.isAgg39 I1.out (C1.out _ B2.out) ?_)
      | (refine wpl_storeS rfl 39 (.tmp 4) _ rfl gz (encE e) rfl rfl 39 zeroE (K2.out.below B2.out) I1.out (by rw [show (encE e).length = 34 from entE.len _]; rfl) (entE.one _) ?_))
    refine bodyPost_ret (res_rowS2 rfl _ _ gz 39 (encE e) _ rfl ((K2.out.below B2.out).row _) Tryz.underlying39 rfl I1.out) rfl ⟨?_, below_setRow' (HB.out.trans (B2.out.mono HB.out.size)) HWZ.out _⟩
    rw [HF.out]
    rfl
  · subst hz
    have HF := Lib.hid hf
    have I0 := Lib.hid (infoE ⟨[], false, default⟩)
    clear FC hf
    go_wp2_with (first
      | (go_at_call 47; refine HC.out.mono ?_; rintro r w2 ⟨rfl, h2⟩; have B2 := Lib.hid h2; clear h2)
      | (refine wpl_build rfl 39 _ rfl zeroE (by kernel_rfl) ?_)
      | (refine wpl_storeS rfl 39 (.tmp 4) _ rfl gz zeroE rfl rfl 39 zeroE (K2.out.below B2.out) I0.out rfl (entE.one _) ?_))
    refine bodyPost_ret (res_rowS2 rfl _ _ gz 39 zeroE _ rfl ((K2.out.below B2.out).row _) Tryz.underlying39 rfl I0.out) rfl ⟨?_, below_setRow' (HB.out.trans (B2.out.mono HB.out.size)) HWZ.out _⟩
    rw [HF.out]
    rfl
end Go.Proofs.YtcomibocajjhoaaGreatDoor
namespace Go.Proofs.YtcomibocajjhoaaGreatDoor
open Go.RowKit
set_option maxHeartbeats 800000 in
theorem partBad_any (W : World) (s : ByteArray) (l : List UInt8) (hl : l = s.data.toList) (hs : s.size ≤ 9223372036854775807) : Calls Tryz.prog 55 #[.string s] W fun e W' => e = .returned (.bool (!nameB l)) ∧ Below W.heap.size W W' := by
  have HC := Lib.hid (treeName_any W s l hl hs)
  generalize nameB l = q at HC ⊢
  clear hl hs
  go_enter Tryz.func55, Tryz.ntmps55
  go_wp2_with (go_at_call 12; refine HC.out.mono ?_; rintro e w1 ⟨rfl, h1⟩; have B1 := Lib.hid h1; clear h1)
  go_ret
  exact ⟨rfl, B1.out⟩
set_option maxHeartbeats 1600000 in
/-- Where the first stands that is no name. -/
theorem partsAt_any (W : World) (A : Option Addr) (n c : Nat) (ts : List (List UInt8)) (hs : Src W 1 A n (Ss ts)) (hn : n ≤ 1099511627776) (hf : ∀ t ∈ ts, t.length ≤ 9223372036854775807) :
    Calls Tryz.prog 77 #[.slice A n c, .func (.func 55) #[] #[]] W fun e W' => ∃ z : Int, e = .returned (.int .i64 z) ∧ decide (0 ≤ z) = !ts.all nameB ∧ Below W.heap.size W W' := by
  have hl : ts.length = n := by have := hs.1; simpa using this
  have LN := Lib.hid hl
  have S0 := Lib.hid hs
  have HF := Lib.hid hf
  have n9 : (n : Int) ≤ 1099511627776 := by omega
  have HN := Lib.hid hn
  clear hl hs hf hn
  go_enter Tryz.func77, Tryz.ntmps77
  go_wp2
  go_loopw [8] (fun i wr => ∃ k : Nat, k ≤ n ∧ i = .int .i64 k ∧ Below W.heap.size W wr ∧ ∀ j, j < k → nameB (ts.getD j []) = true) (fun i _ => n - (intOf i).toNat)
  case atStart => exact ⟨0, by omega, rfl, Below.refl _ _, fun j h => by omega⟩
  case round =>
    obtain ⟨k, hk, rfl, hb, hall⟩ := hrel
    have BR := Lib.hid hb
    by_cases hlt : k < n
    · have hln := LN.out
      have k1 : (k : Int) < (n : Int) := by omega
      obtain ⟨ad, rfl, hx⟩ := (src_below S0.out hb).2.1 (by omega)
      obtain ⟨sn, hsn⟩ : ∃ sn : ByteArray, sn = ⟨(ts.getD k []).toArray⟩ := ⟨_, rfl⟩
      have hcell : wr.cell? (ad.add k) = some (.string sn) := hx k _ (by rw [hsn]; simp [Ss, List.getD_eq_getElem?_getD, show k < ts.length by omega])
      have hmem : ts.getD k [] ∈ ts := by simp [List.getD_eq_getElem?_getD, show k < ts.length by omega]
      have cB := fun w => partBad_any w sn (ts.getD k []) (by rw [hsn]) (by rw [hsn, ba_size]; exact HF.out _ hmem)
      have miss : nameB (ts.getD k []) = false → ts.all nameB = false := fun h => by
        rw [Bool.eq_false_iff]
        intro hh
        rw [List.all_eq_true.1 hh _ hmem] at h
        cases h
      have next : nameB (ts.getD k []) = true → ∀ j, j < k + 1 → nameB (ts.getD j []) = true := fun h j hj => by
        rcases Nat.lt_or_ge j k with h1 | h1
        · exact hall j h1
        · rw [show j = k by omega]; exact h
      have MISS := Lib.hid miss
      have NEXT := Lib.hid next
      have HLT := Lib.hid hlt
      generalize nameB (ts.getD k []) = q at cB MISS NEXT
      have CB := Lib.hid cB
      clear hb hall hx hsn hmem cB miss next hlt hk hln
      cases q
      · have OK := Lib.hid (MISS.out rfl)
        go_wp2_with (go_at_call 55; refine (CB.out _).mono ?_; rintro e w2 ⟨rfl, h2⟩; have B2 := Lib.hid h2; clear h2)
        go_ret
        exact ⟨_, rfl, by rw [OK.out]; exact decide_eq_true (Int.natCast_nonneg k), BR.out.trans (B2.out.mono BR.out.size)⟩
      · have OK := Lib.hid (NEXT.out rfl)
        go_wp2_with (go_at_call 55; refine (CB.out _).mono ?_; rintro e w2 ⟨rfl, h2⟩; have B2 := Lib.hid h2; clear h2)
        go_roundw
        case measure => simp [intOf]; have := HLT.out; omega
        case rel => exact ⟨k + 1, by have := HLT.out; omega, by go_num, BR.out.trans (B2.out.mono BR.out.size), OK.out⟩
    · have : k = n := by omega
      subst this
      have hok : ts.all nameB = true := by
        rw [List.all_eq_true]
        intro t ht
        obtain ⟨j, hj, rfl⟩ := List.getElem_of_mem ht
        have := hall j (by have := LN.out; omega)
        simpa [List.getD_eq_getElem?_getD, hj] using this
      have OK := Lib.hid hok
      clear hall hok hb
      go_wp2
      go_ret
      exact ⟨-1, rfl, by rw [OK.out]; rfl, BR.out⟩
theorem partsBad_any (W : World) (A : Option Addr) (n c : Nat) (ts : List (List UInt8)) (hs : Src W 1 A n (Ss ts)) (hn : n ≤ 1099511627776) (hf : ∀ t ∈ ts, t.length ≤ 9223372036854775807) :
    Calls Tryz.prog 54 #[.slice A n c, .func (.func 55) #[] #[]] W fun e W' => e = .returned (.bool (!ts.all nameB)) ∧ Below W.heap.size W W' := by
  have HC := Lib.hid (partsAt_any W A n c ts hs hn hf)
  clear hs hn hf
  go_enter Tryz.func54, Tryz.ntmps54
  go_wp2_with (go_at_call 77; refine HC.out.mono ?_; rintro e w1 ⟨z, rfl, hz, h1⟩; have HZ := Lib.hid hz; have B1 := Lib.hid h1; clear h1 hz)
  go_ret
  exact ⟨by rw [← HZ.out]; rfl, B1.out⟩
end Go.Proofs.YtcomibocajjhoaaGreatDoor
namespace Go.Proofs.YtcomibocajjhoaaGreatDoor
open Go.RowKit
theorem treeB_take (es : List Ent) (i : Nat) (h : i < es.length) : treeB (es.take (i + 1)) = treeB (es.take i) ++ entB es[i]! := by
  rw [← treeB_snoc]
  congr 1
  rw [List.take_add_one, getElem!_pos es i h]
  simp [h]
theorem run_cutArr (w : World) (b o q : Nat) (hq : q < 32) : (Instr.sliceAt 30 (.pointer (some ⟨b, o, none⟩)) (some (.int .i64 (q : Int))) (some (.int .i64 ((q : Int) + 1))) none).run Tryz.prog w = .ok (.slice (some ⟨b, o + q, none⟩) 1 (32 - q)) w := by
  have hu := Tryz.underlying30
  have e1 : (q : Int) ≤ (q : Int) + 1 := by omega
  have e2 : (q : Int) + 1 ≤ 32 := by omega
  have e3 : ((q : Int) + 1).toNat = q + 1 := by omega
  have e4 : ¬ 32 = q := by omega
  simp [Instr.sliceAt, Instr.slice, Instr.sliceBounds, Instr.sliceBound, go_sem, run_underlying hu, e2, e3, e4]
  exact fun h => absurd h (by omega)
set_option maxRecDepth 20000 in
set_option maxHeartbeats 3200000 in
theorem refTree_any (W : World) (A : Option Addr) (n c : Nat) (es : List Ent) (hs : Src W entE.k A n (entE.row es)) (hm : mayT es = true) :
    Calls Tryz.prog 29 #[.slice A n c] W fun r W' => r = .returned (.string ⟨(treeB es).toArray⟩) ∧ W' = W := by
  have LN := Lib.hid (entE.src_len hs)
  have S0 := Lib.hid hs
  have n20 : n ≤ 20 := by have := mayT_len hm; have := LN.out; omega
  have n9 : (n : Int) ≤ 20 := by omega
  have HM := Lib.hid hm
  have HN := Lib.hid n20
  clear hs hm n20
  go_enter Tryz.func29, Tryz.ntmps29
  go_wp2
  go_loop [3, 4] (fun s i => ∃ (k : Nat) (x : ByteArray), k ≤ n ∧ i = .int .i64 k ∧ s = .string x ∧ x.data.toList = treeB (es.take k)) (fun _ i => n - (intOf i).toNat)
  case atStart => exact ⟨0, ⟨#[]⟩, by omega, rfl, rfl, rfl⟩
  case round =>
    obtain ⟨k, x, hk, rfl, rfl, hx⟩ := hrel
    by_cases hlt : k < n
    · have k1 : (k : Int) < (n : Int) := by omega
      have hln := LN.out
      obtain ⟨_, b, o, rfl, hc⟩ := entE.src_at S0.out (by omega)
      obtain ⟨e, he⟩ : ∃ e, e = es[k]! := ⟨_, rfl⟩
      have hc1 : ∀ i v, (encE e)[i]? = some v → W.cell? ⟨b, o + k * 34 + i, none⟩ = some v := by rw [he]; exact hc k hlt
      obtain ⟨sn, hsn⟩ : ∃ sn : ByteArray, sn = ⟨e.nm.toArray⟩ := ⟨_, rfl⟩
      have c0 : W.cell? ⟨b, o + k * 34, none⟩ = some (.string sn) := by rw [hsn]; exact hc1 0 _ rfl
      have c1 : W.cell? ⟨b, o + k * 34 + 1, none⟩ = some (.bool e.tr) := hc1 1 _ rfl
      have c2 : Hid (∀ j, j < 32 → W.cell? ⟨b, o + k * 34 + 2 + j, none⟩ = some (.int .u8 (ub (gb e.id.1 j)))) := Lib.hid fun j hj => by
        have := hc1 (j + 2) (.int .u8 (ub (gb e.id.1 j))) (by
          show (encI e.id)[j]? = _
          exact Bs_at e.id.1 j (by have := e.id.2; omega))
        rwa [show o + k * 34 + (j + 2) = o + k * 34 + 2 + j by omega] at this
      have hnm : sn.size ≤ 20 := by
        rw [hsn, ba_size]
        have := nameB_len (mayT_name HM.out k (by omega))
        rw [← he] at this
        exact this
      have hxs : x.size ≤ 1100 := by
        rw [ba_size, hx]
        have := treeB_len (es.take k) (fun y hy => by
          obtain ⟨j, hj, rfl⟩ := List.getElem_of_mem hy
          have hj2 : j < es.length := by rw [List.length_take] at hj; omega
          have := nameB_len (mayT_name HM.out j hj2)
          rw [getElem!_pos es j hj2] at this
          simpa using this)
        rw [List.length_take] at this
        have := HN.out
        omega
      have hnx := treeB_take es k (by omega)
      rw [← he, ← hx] at hnx
      have NX := Lib.hid hnx
      have SN := Lib.hid hsn
      have HLT := Lib.hid hlt
      clear hc hc1 he hx hnx hsn hln hk
      obtain ⟨tr, htr⟩ : ∃ tr, tr = e.tr := ⟨_, rfl⟩
      rw [← htr] at c1
      have TR := Lib.hid htr
      clear htr
      cases tr
      · have hy : (x ++ ({ data := #[102, 32] } : ByteArray) ++ (sn ++ ({ data := #[0] } : ByteArray))).data.toList ++ e.id.1 = treeB (es.take (k + 1)) := by
          rw [NX.out]
          unfold entB
          rw [← TR.out]
          simp only [ba_append, SN.out]
          simp
        have hys : (x ++ ({ data := #[102, 32] } : ByteArray) ++ (sn ++ ({ data := #[0] } : ByteArray))).size ≤ 1200 := by
          simp only [ByteArray.size_append]
          have e1 : (ByteArray.mk #[102, 32]).size = 2 := rfl
          have e2 : (ByteArray.mk #[0]).size = 1 := rfl
          omega
        have HY := Lib.hid hy
        clear hy
        go_wp2
        generalize (x ++ ({ data := #[102, 32] } : ByteArray) ++ (sn ++ ({ data := #[0] } : ByteArray))) = y at HY hys ⊢
        clear c0 c1
        go_loop [3, 5] (fun s j => ∃ (q : Nat) (z : ByteArray), q ≤ 32 ∧ j = .int .i64 q ∧ s = .string z ∧ z.data.toList = y.data.toList ++ e.id.1.take q) (fun _ j => 32 - (intOf j).toNat)
        case atStart => exact ⟨0, y, by omega, rfl, rfl, by simp⟩
        case round =>
          obtain ⟨q, z, hq, rfl, rfl, hz⟩ := hrel
          have h32 := e.id.2
          have hzs : z.size ≤ 1300 := by rw [ba_size, hz, List.length_append, List.length_take, ← ba_size]; omega
          by_cases hlq : q < 32
          · have q1 : (q : Int) < 32 := by omega
            have hsrc : Src W 1 (some ⟨b, o + k * 34 + 2 + q, none⟩) 1 (Bs [gb e.id.1 q]) := ⟨rfl, fun _ => ⟨_, rfl, fun j u hu => by
              have hj : j < 1 := (List.getElem?_eq_some_iff.1 hu).1
              obtain rfl : j = 0 := by omega
              have h1 := c2.out q hlq
              have h2 : u = .int .u8 (ub (gb e.id.1 q)) := by simpa [Bs] using hu.symm
              rw [h2]
              exact h1⟩, Bs_one _⟩
            have hnz : (z ++ (⟨#[gb e.id.1 q]⟩ : ByteArray)).data.toList = y.data.toList ++ e.id.1.take (q + 1) := by
              rw [ba_append, hz, List.append_assoc]
              congr 1
              rw [List.take_add_one]
              simp [gb, List.getD_eq_getElem?_getD, show q < e.id.1.length by omega]
            have hcut := run_cutArr W b (o + k * 34 + 2) q hlq
            have HS := Lib.hid hsrc
            have NZ := Lib.hid hnz
            have HQ := Lib.hid hlq
            clear hsrc hnz hz h32 hq hlq
            generalize gb e.id.1 q = u8 at HS NZ
            go_wp2_with (refine wpl_conv rfl 24 9 _ rfl (.string ⟨#[u8]⟩) (run_str _ (some ⟨b, o + k * 34 + 2 + q, none⟩) 1 (32 - q) [u8] HS.out) ?_)
            go_round
            case measure => simp [intOf]; have := HQ.out; omega
            case rel => exact ⟨q + 1, _, by have := HQ.out; omega, by go_num, rfl, NZ.out⟩
          · have : q = 32 := by omega
            subst this
            have hzz : z.data.toList = treeB (es.take (k + 1)) := by rw [hz, List.take_of_length_le (by omega), HY.out]
            have HZ := Lib.hid hzz
            clear hz hzz h32
            go_wp2
            go_round
            case measure => simp [intOf]; have := HLT.out; omega
            case rel => exact ⟨k + 1, z, by have := HLT.out; omega, by go_num, rfl, HZ.out⟩
      · have hy : (x ++ ({ data := #[100, 32] } : ByteArray) ++ (sn ++ ({ data := #[0] } : ByteArray))).data.toList ++ e.id.1 = treeB (es.take (k + 1)) := by
          rw [NX.out]
          unfold entB
          rw [← TR.out]
          simp only [ba_append, SN.out]
          simp
        have hys : (x ++ ({ data := #[100, 32] } : ByteArray) ++ (sn ++ ({ data := #[0] } : ByteArray))).size ≤ 1200 := by
          simp only [ByteArray.size_append]
          have e1 : (ByteArray.mk #[100, 32]).size = 2 := rfl
          have e2 : (ByteArray.mk #[0]).size = 1 := rfl
          omega
        have HY := Lib.hid hy
        clear hy
        go_wp2
        generalize (x ++ ({ data := #[100, 32] } : ByteArray) ++ (sn ++ ({ data := #[0] } : ByteArray))) = y at HY hys ⊢
        clear c0 c1
        go_loop [3, 5] (fun s j => ∃ (q : Nat) (z : ByteArray), q ≤ 32 ∧ j = .int .i64 q ∧ s = .string z ∧ z.data.toList = y.data.toList ++ e.id.1.take q) (fun _ j => 32 - (intOf j).toNat)
        case atStart => exact ⟨0, y, by omega, rfl, rfl, by simp⟩
        case round =>
          obtain ⟨q, z, hq, rfl, rfl, hz⟩ := hrel
          have h32 := e.id.2
          have hzs : z.size ≤ 1300 := by rw [ba_size, hz, List.length_append, List.length_take, ← ba_size]; omega
          by_cases hlq : q < 32
          · have q1 : (q : Int) < 32 := by omega
            have hsrc : Src W 1 (some ⟨b, o + k * 34 + 2 + q, none⟩) 1 (Bs [gb e.id.1 q]) := ⟨rfl, fun _ => ⟨_, rfl, fun j u hu => by
              have hj : j < 1 := (List.getElem?_eq_some_iff.1 hu).1
              obtain rfl : j = 0 := by omega
              have h1 := c2.out q hlq
              have h2 : u = .int .u8 (ub (gb e.id.1 q)) := by simpa [Bs] using hu.symm
              rw [h2]
              exact h1⟩, Bs_one _⟩
            have hnz : (z ++ (⟨#[gb e.id.1 q]⟩ : ByteArray)).data.toList = y.data.toList ++ e.id.1.take (q + 1) := by
              rw [ba_append, hz, List.append_assoc]
              congr 1
              rw [List.take_add_one]
              simp [gb, List.getD_eq_getElem?_getD, show q < e.id.1.length by omega]
            have hcut := run_cutArr W b (o + k * 34 + 2) q hlq
            have HS := Lib.hid hsrc
            have NZ := Lib.hid hnz
            have HQ := Lib.hid hlq
            clear hsrc hnz hz h32 hq hlq
            generalize gb e.id.1 q = u8 at HS NZ
            go_wp2_with (refine wpl_conv rfl 24 9 _ rfl (.string ⟨#[u8]⟩) (run_str _ (some ⟨b, o + k * 34 + 2 + q, none⟩) 1 (32 - q) [u8] HS.out) ?_)
            go_round
            case measure => simp [intOf]; have := HQ.out; omega
            case rel => exact ⟨q + 1, _, by have := HQ.out; omega, by go_num, rfl, NZ.out⟩
          · have : q = 32 := by omega
            subst this
            have hzz : z.data.toList = treeB (es.take (k + 1)) := by rw [hz, List.take_of_length_le (by omega), HY.out]
            have HZ := Lib.hid hzz
            clear hz hzz h32
            go_wp2
            go_round
            case measure => simp [intOf]; have := HLT.out; omega
            case rel => exact ⟨k + 1, z, by have := HLT.out; omega, by go_num, rfl, HZ.out⟩
    · have : k = n := by omega
      subst this
      have hfin : x = ⟨(treeB es).toArray⟩ := ba_ext (by rw [hx, List.take_of_length_le (by have := LN.out; omega)])
      subst hfin
      clear hx
      go_wp2
      go_ret
      exact ⟨rfl, rfl⟩
end Go.Proofs.YtcomibocajjhoaaGreatDoor
