/- tree.Path: a path's parts. ref5.Path: the document's parts of a path are the program's. -/
import Derived.Test.YtcomibocajjhoaaGreatDoorP13x
import Derived.Test.YtcomibocajjhoaaGreatDoorP11x
import Derived.Test.YtcomibocajjhoaaGreatDoorSh
import Derived.Test.YtcomibocajjhoaaGreatDoorNm
import Derived.Test.YtcomibocajjhoaaGreatDoorP6x
import Derived.Test.YtcomibocajjhoaaGreatDoorP7x
namespace Go.Proofs.YtcomibocajjhoaaGreatDoor
open Go.RowKit
theorem splitB_Ss (s : ByteArray) (d : UInt8) : (Lib.splitB ⟨#[d]⟩ 0 (Lib.countB s ⟨#[d]⟩) s).map Value.string = Ss (Lib.split s.data.toList [d]) := by
  have h := Lib.splitB_data ⟨#[d]⟩ 0 (Lib.countB s ⟨#[d]⟩) s
  have e : Lib.splitK [d] 0 (Lib.countB s ⟨#[d]⟩) s.data.toList = Lib.split s.data.toList [d] := rfl
  rw [e] at h
  unfold Ss
  rw [← h, List.map_map]
  refine List.map_congr_left fun b _ => ?_
  show Value.string b = Value.string ⟨b.data.toList.toArray⟩
  simp
/-- strings.Split at one sign. -/
theorem split_any (W : World) (s : ByteArray) (d : UInt8) (hs : s.size < 4294967281) (hG : Gl W) :
    Calls Tryz.prog 50 #[.string s, .string ⟨#[d]⟩] W fun e W' => ∃ L, L = Lib.split s.data.toList [d] ∧ e = .returned (.slice (some ⟨W.heap.size, 0, none⟩) L.length L.length) ∧ Src W' 1 (some ⟨W.heap.size, 0, none⟩) L.length (Ss L) ∧ Below W.heap.size W W' ∧ W'.heap.size = W.heap.size + 1 := by
  obtain ⟨m, hm⟩ := hG.mlen
  have hc := Tryz.strings_Split s ⟨#[d]⟩ m W hs hm (Nat.le_refl 1)
  refine hc.mono ?_
  rintro e w ⟨rfl, rfl⟩
  have hL := splitB_Ss s d
  have hlen := Lib.splitB_all ⟨#[d]⟩ (Nat.le_refl 1) 0 _ s rfl
  have hl2 : (Lib.split s.data.toList [d]).length = Lib.countB s ⟨#[d]⟩ + 1 := by
    have := congrArg List.length hL
    simpa [Ss, hlen] using this.symm
  refine ⟨_, rfl, by rw [hl2], ?_, (Below.refl _ _).alloc (Nat.le_refl _) _, hsz _ _⟩
  rw [hL]
  refine ⟨by simp [Ss], fun _ => ⟨_, rfl, fun j u hj => ?_⟩, fun u hu => by
    unfold Ss at hu
    obtain ⟨x, _, rfl⟩ := List.mem_map.1 hu
    rfl⟩
  rw [addr_row _ rfl, Nat.zero_add]
  exact (Blk.new W 9 _).cell j u hj
def PathPost (W : World) (s : List UInt8) (e : Ending) (W' : World) : Prop := ∃ A c, e = .returned (.tuple #[.slice A (pathV s).1.length c, .bool (pathV s).2]) ∧ Src W' 1 A (pathV s).1.length (Ss (pathV s).1) ∧ Below W.heap.size W W'
theorem split_short (s : List UInt8) (_d : UInt8) : ∀ x ∈ partsP s, x.length ≤ s.length := by
  obtain ⟨_, _, h3⟩ := partsP_holds s [[]] (by simp) (by simp)
  have h3 : joinS 47 (partsP s) = s := by rw [joinS] at h3; exact h3
  have key : ∀ L : List (List UInt8), ∀ x ∈ L, x.length ≤ (joinS 47 L).length := by
    intro L
    induction L with
    | nil => intro x hx; cases hx
    | cons l r ih =>
      intro x hx
      cases r with
      | nil => rw [List.mem_singleton.1 hx]; exact Nat.le_refl _
      | cons y r =>
        rw [joinS_cons 47 l (by simp), List.length_append, List.length_cons]
        rcases List.mem_cons.1 hx with rfl | h
        · omega
        · have := ih x h; omega
  intro x hx
  have := key _ x hx
  rwa [h3] at this
set_option maxHeartbeats 1600000 in
theorem treePath_any (W : World) (s : ByteArray) (l : List UInt8) (hl : l = s.data.toList) (hs : s.size < 4294967281) (hG : Gl W) : Calls Tryz.prog 22 #[.string s] W (PathPost W l) := by
  have hz : l.length = s.size := by rw [hl, ← ba_size]
  by_cases h0 : l = []
  · subst h0
    have : s = ⟨#[]⟩ := ba_ext (by rw [← hl])
    subst this
    unfold PathPost
    have e : pathV [] = ([], true) := rfl
    rw [e]
    clear hl hs hz hG
    go_enter Tryz.func22, Tryz.ntmps22
    go_wp2
    go_ret2
    exact ⟨none, 0, rfl, ⟨rfl, fun h => by omega, fun u hu => by cases hu⟩, Below.refl _ _⟩
  · have hne : (s.toList == []) = false := by rw [ByteArray.toList_eq, ← hl]; simpa using h0
    have hc := split_any W s 47 hs hG
    rw [← hl, partsP_split] at hc
    have hsh := split_short l 47
    have hpl := partsP_len l
    obtain ⟨ps, hps⟩ : ∃ ps, ps = partsP l := ⟨_, rfl⟩
    rw [← hps] at hc hsh hpl
    have hv : pathV l = if ps.all nameB = true then (ps, true) else ([], false) := by unfold pathV; rw [if_neg h0, hps]
    unfold PathPost
    rw [hv]
    have HC := Lib.hid hc
    have SH := Lib.hid (fun t ht => Nat.le_trans (hsh t ht) (by omega) : ∀ t ∈ ps, t.length ≤ 9223372036854775807)
    have PL := Lib.hid (show ps.length ≤ 1099511627776 by omega)
    clear hl hs hz hG h0 hc hsh hpl hps hv
    cases hq : ps.all nameB
    all_goals
      have HQ := Lib.hid hq
      clear hq
      go_enter Tryz.func22, Tryz.ntmps22
      go_wp2_with (first
        | (go_at_call 50; refine HC.out.mono ?_; rintro e w1 ⟨L, rfl, rfl, hsr, hb, _⟩; have SR := Lib.hid hsr; have B1 := Lib.hid hb; clear hsr hb)
        | (go_at_call 54; refine (partsBad_any _ _ _ _ _ SR.out PL.out SH.out).mono ?_; rintro e w2 ⟨he, hb⟩; rw [HQ.out] at he; subst he; have B2 := Lib.hid hb; clear hb))
      go_ret2
      first
        | exact ⟨none, ⟨0, rfl⟩, ⟨rfl, fun h => absurd h (Nat.lt_irrefl 0), fun u hu => by cases hu⟩, B1.out.trans (B2.out.mono B1.out.size)⟩
        | exact ⟨_, ⟨_, rfl⟩, src_below SR.out B2.out, B1.out.trans (B2.out.mono B1.out.size)⟩
end Go.Proofs.YtcomibocajjhoaaGreatDoor
namespace Go.Proofs.YtcomibocajjhoaaGreatDoor
open Go.RowKit
theorem stepP_slash (L : List (List UInt8)) : stepP L 47 = L ++ [[]] := by simp [stepP]
theorem stepP_other (L : List (List UInt8)) (m : Nat) (hL : L.length = m + 1) (c : UInt8) (h : c ≠ 47) : stepP L c = L.set m ((L.getD m []) ++ [c]) := by
  unfold stepP
  rw [if_neg h]
  obtain ⟨a, x, rfl⟩ : ∃ a x, L = a ++ [x] := ⟨L.dropLast, L.getLast (fun e => by rw [e] at hL; simp at hL), (List.dropLast_concat_getLast _).symm⟩
  have ha : a.length = m := by simpa using hL
  subst ha
  simp [List.getD_eq_getElem?_getD]
theorem Ss_set (L : List (List UInt8)) (m : Nat) (x : List UInt8) : (Ss L).set m (.string ⟨x.toArray⟩) = Ss (L.set m x) := by simp [Ss, List.map_set]
theorem Ss_snoc' (L : List (List UInt8)) (x : List UInt8) : Ss (L ++ [x]) = Ss L ++ [.string ⟨x.toArray⟩] := by simp [Ss]
theorem Ss_one' (l : List (List UInt8)) : ∀ v ∈ Ss l, v.oneCell' = true := by
  intro v hv
  simp only [Ss, List.mem_map] at hv
  obtain ⟨x, _, rfl⟩ := hv
  rfl
theorem row_one_str (W : World) : RowQ (W.alloc (.cells #[.string ⟨#[]⟩] 9)) W.heap.size 9 1 (.slice (some ⟨W.heap.size, 0, none⟩) 1 1) 1 (Ss [[]]) :=
  row_new strE W W.heap.size 9 [[]] (Nat.le_refl _) (by decide)
set_option maxRecDepth 20000 in
set_option maxHeartbeats 3200000 in
theorem rpath_any (W : World) (s : ByteArray) (l : List UInt8) (hl : l = s.data.toList) (hs : s.size < 4294967281) : Calls Tryz.prog 23 #[.string s] W (PathPost W l) := by
  have hls : l.length = s.size := by rw [hl, ← ba_size]
  by_cases h0 : l = []
  · have hs0 : s = ⟨#[]⟩ := ba_ext (by rw [← hl, h0])
    subst hs0
    subst h0
    have hp : pathV [] = ([], true) := rfl
    unfold PathPost
    rw [hp]
    clear hl hs hls hp
    go_enter Tryz.func23, Tryz.ntmps23
    go_wp2
    go_ret2
    exact ⟨none, 0, rfl, ⟨rfl, fun h => absurd h (Nat.lt_irrefl 0), fun u hu => by cases hu⟩, Below.refl _ _⟩
  · have hne : s.toList.isEmpty = false := by rw [ByteArray.toList_eq, ← hl]; simpa using h0
    have R0 := Lib.hid (row_one_str W)
    have L0 := Lib.hid ((Below.refl W.heap.size W).alloc (Nat.le_refl _) (.cells #[.string ⟨#[]⟩] 9))
    obtain ⟨w0, hw0⟩ : ∃ w0, W.alloc (.cells #[.string ⟨#[]⟩] 9) = w0 := ⟨_, rfl⟩
    rw [hw0] at R0 L0
    have HL := Lib.hid hl
    have HLS := Lib.hid hls
    have HS := Lib.hid hs
    have H0 := Lib.hid h0
    clear hl hls hs h0
    go_enter Tryz.func23, Tryz.ntmps23
    go_upto_region 5 with fail
    clear hw0
    go_loopw [4, 5] (fun v i wr => ∃ k : Nat, k ≤ s.size ∧ i = .int .i64 k ∧ RowQ wr W.heap.size 9 1 v (partsP (l.take k)).length (Ss (partsP (l.take k))) ∧ Below W.heap.size W wr) (fun _ i _ => s.size - (intOf i).toNat)
    case atStart => exact ⟨0, Nat.zero_le _, rfl, R0.out, L0.out⟩
    case round =>
      obtain ⟨k, hk, rfl, hR, hB⟩ := hrel
      clear R0 L0
      obtain ⟨L, hLL⟩ : ∃ L, L = partsP (l.take k) := ⟨_, rfl⟩
      rw [← hLL] at hR
      have hLn : L ≠ [] := by rw [hLL]; exact partsP_ne _
      obtain ⟨m, hm⟩ : ∃ m, L.length = m + 1 := ⟨L.length - 1, by have := List.length_pos_iff.2 hLn; omega⟩
      have hmz : m + 1 ≤ s.size + 1 := by rw [← hm, hLL]; have := partsP_len (l.take k); rw [List.length_take] at this; have := HLS.out; omega
      rw [hm] at hR
      obtain ⟨A1, c1, rfl, hc1, hm1⟩ := hR.shape
      have HB := Lib.hid hB
      have HM := Lib.hid hm
      have HMZ := Lib.hid hmz
      by_cases hlt : k < s.size
      · have k1 : (k : Int) < (s.size : Int) := by omega
        obtain ⟨c, hc⟩ : ∃ c, l[k]'(by have := HLS.out; omega) = c := ⟨_, rfl⟩
        have hcs : s[k]'hlt = c := by
          rw [← hc, ByteArray.getElem_eq_getElem_data, ← Array.getElem_toList]
          simp only [HL.out]
        have hst : partsP (l.take (k + 1)) = stepP L c := by
          rw [hLL, List.take_succ_eq_append_getElem (by have := HLS.out; omega), partsP_snoc, hc]
        have HST := Lib.hid hst
        have HLT := Lib.hid hlt
        by_cases h47 : c = 47
        · have k2 : (k : Int) < 4294967281 := by have := HS.out; omega
          have hv : ((s[k]'hlt).toNat : Int) = 47 := by rw [hcs, h47]; rfl
          subst h47
          have R1 := Lib.hid hR
          clear hB hm hmz hLn hLL hc hst hcs hR hk
          go_wp2_with (first
            | (at_builtin; refine wpl_append rfl (.tmp 20) (.tmp 21) 50 rfl W.heap.size 9 (.string ⟨#[]⟩) 1 16 Tryz.underlying50 Tryz.infoS rfl (by decide) (.slice A1 (m + 1) c1) (m + 1) (Ss L) rfl (R1.out.alloc _) _ 1 1 [.string ⟨#[]⟩] rfl (src_box1 _ _ _ rfl _ rfl) (by have := HMZ.out; have := HS.out; omega) (by have := HMZ.out; have := HS.out; omega) (by have := HB.out.size; simp; omega) ?_; intro v3 w3 hr3 hg3 ha3; have R3 := Lib.hid hr3; have L3 := Lib.hid ((HB.out.alloc HB.out.size _).grown hg3 (by have := HB.out.size; simp; omega) (fun k e => (R1.out.lt k e).1)); clear hr3 hg3 ha3))
          go_roundw
          case measure => have := HLT.out; simp [intOf]; omega
          case rel =>
            refine ⟨k + 1, HLT.out, by go_num, ?_, L3.out⟩
            rw [HST.out, stepP_slash, Ss_snoc', List.length_append, HM.out]
            exact R3.out
        · have k2 : (k : Int) < 4294967281 := by have := HS.out; omega
          have m2 : (m : Int) < 4294967282 := by have := HS.out; omega
          have hv : (((s[k]'hlt).toNat : Int) == 47) = false := by
            rw [hcs, beq_eq_false_iff_ne]
            intro e
            exact h47 (UInt8.toNat_inj.1 (by have : ((47 : UInt8).toNat : Int) = 47 := rfl; omega))
          obtain ⟨g, o, rfl, hge, _⟩ := hR.blk (by omega)
          have GE := Lib.hid hge
          clear hge
          obtain ⟨x, hx⟩ : ∃ x : ByteArray, x = ⟨(L.getD m []).toArray⟩ := ⟨_, rfl⟩
          obtain ⟨hcell, hfr⟩ := hR.cellAt m (by omega) (.string x) (by rw [hx]; simp [Ss, List.getD_eq_getElem?_getD, List.getElem?_eq_getElem (show m < L.length by omega)])
          have hnx : ∀ z : ByteArray, z = s.extract k (k + 1) → (x ++ z) = ⟨((L.getD m []) ++ [c]).toArray⟩ := by
            intro z hz
            refine ba_ext ?_
            have hkl : k < l.length := by have := HLS.out; omega
            have e1 : (s.extract k (k + 1)).data.toList = [c] := by
              rw [ba_extract, ← HL.out, List.take_succ_eq_append_getElem hkl, hc, List.drop_append_of_le_length (by rw [List.length_take]; omega), List.drop_of_length_le (by rw [List.length_take]; omega)]
              rfl
            rw [ba_append, hz, e1, hx]
          have hsum : x.size + (s.extract k (k + 1)).size ≤ 9223372036854775807 := by
            have h1 : L.getD m [] ∈ partsP (l.take k) := by
              rw [← hLL, List.getD_eq_getElem?_getD, List.getElem?_eq_getElem (show m < L.length by omega)]
              exact List.getElem_mem _
            have h2 := split_short (l.take k) 47 _ h1
            rw [List.length_take] at h2
            have h3 : x.size = (L.getD m []).length := by rw [hx, ba_size]
            have h4 : (s.extract k (k + 1)).size ≤ 1 := by rw [ByteArray.size_extract]; omega
            have := HLS.out
            have := HS.out
            omega
          have hadd : ∀ w, (Op.stringOp .add x (s.extract k (k + 1))).run Tryz.prog w = .ok (.string (x ++ s.extract k (k + 1))) w := fun w => run_string_add_sum w _ _ hsum
          clear hsum
          have R1 := Lib.hid hR
          have NX := Lib.hid hnx
          have H47 := Lib.hid h47
          have m1 : (m : Int) + 1 ≤ (c1 : Int) := by omega
          clear hB hm hmz hLn hLL hc hst hcs hR hk hnx hx h47
          go_wp2
          go_region
          go_wp2
          go_roundw
          case measure => have := HLT.out; simp [intOf]; omega
          case rel =>
            refine ⟨k + 1, HLT.out, by go_num, ?_, ?_⟩
            · rw [HST.out, stepP_other L m HM.out c H47.out, List.length_set, HM.out, NX.out _ rfl, ← Ss_set]
              exact (R1.out.setAt m (by omega) _).drewN 1
            · exact (HB.out.trans (show Below W.heap.size wr (wr.setCell ⟨g, o + m, none⟩ (.string (x ++ s.extract k (k + 1)))) from ⟨rfl, rfl, rfl, by simp [World.setCell], fun k hk => heap_setCell_other wr ⟨g, o + m, none⟩ k _ (by show k ≠ g; have := GE.out; omega)⟩)).drew
      · have hkk : k = s.size := by omega
        have hk1 : ¬ ((k : Int) < (s.size : Int)) := by omega
        have hLl : L = partsP l := by rw [hLL, hkk, ← HLS.out, List.take_length]
        have HLL := Lib.hid hLl
        have R1 := Lib.hid hR
        clear hB hm hLn hLL hkk hLl hR hk hlt
        go_upto_region 11 with fail
        go_loopw [6] (fun i wx => ∃ j : Nat, j ≤ m + 1 ∧ i = .int .i64 j ∧ (L.take j).all nameB = true ∧ wx = wr) (fun i _ => m + 1 - (intOf i).toNat)
        case atStart => exact ⟨0, Nat.zero_le _, rfl, rfl, rfl⟩
        case round =>
          obtain ⟨j, hj, rfl, hA, hw⟩ := hrel
          have hw1 := hw.symm
          subst hw1
          clear hw
          by_cases hjl : j < m + 1
          · have j1 : (j : Int) < (m : Int) + 1 := by omega
            have j2 : (m : Int) + 1 ≤ (c1 : Int) := by omega
            have j3 : (j : Int) < 4294967282 := by have := HS.out; have := HMZ.out; omega
            obtain ⟨g, o, rfl, _, _⟩ := R1.out.blk (by omega)
            obtain ⟨x, hx⟩ : ∃ x : ByteArray, x = ⟨(L.getD j []).toArray⟩ := ⟨_, rfl⟩
            have hcell := (R1.out.cellAt j hjl (.string x) (by rw [hx]; simp [Ss, List.getD_eq_getElem?_getD, List.getElem?_eq_getElem (show j < L.length by have := HM.out; omega)])).1
            have hjL : j < L.length := by have := HM.out; omega
            have hxz : x.size ≤ 9223372036854775807 := by
              have h1 : L.getD j [] ∈ partsP l := by
                rw [← HLL.out, List.getD_eq_getElem?_getD, List.getElem?_eq_getElem hjL]
                exact List.getElem_mem hjL
              have := split_short l 47 _ h1
              rw [hx, ba_size]
              show (L.getD j []).length ≤ _
              have := HLS.out
              have := HS.out
              omega
            have cN := fun w => refName_any w x (L.getD j []) (by rw [hx]) hxz
            have hnext : (L.take (j + 1)).all nameB = nameB (L.getD j []) := by
              rw [List.take_succ_eq_append_getElem hjL, List.all_append, hA, List.getD_eq_getElem?_getD, List.getElem?_eq_getElem hjL]
              simp
            have hbad : nameB (L.getD j []) = false → L.all nameB = false := by
              intro h
              rw [Bool.eq_false_iff]
              intro hh
              have := List.all_eq_true.1 hh (L.getD j []) (by rw [List.getD_eq_getElem?_getD, List.getElem?_eq_getElem hjL]; exact List.getElem_mem hjL)
              rw [h] at this
              cases this
            have NX := Lib.hid hnext
            have BD := Lib.hid hbad
            have HJ := Lib.hid hjl
            generalize nameB (L.getD j []) = nb at cN NX BD
            have CN := Lib.hid cN
            clear cN hnext hbad hjL hxz hx hA hj hjl
            cases nb
            · have BE := Lib.hid (BD.out rfl)
              go_wp2_with (go_at_call 21; refine (CN.out _).mono ?_; rintro e w5 ⟨rfl, hw⟩; replace hw := hw.symm; subst hw)
              go_ret2
              have hp : pathV l = ([], false) := by
                unfold pathV
                rw [if_neg H0.out, ← HLL.out, if_neg (by rw [BE.out]; simp)]
              unfold PathPost
              rw [hp]
              exact ⟨none, 0, rfl, ⟨rfl, fun h => absurd h (Nat.lt_irrefl 0), fun u hu => by cases hu⟩, HB.out⟩
            · go_wp2_with (go_at_call 21; refine (CN.out _).mono ?_; rintro e w5 ⟨rfl, hw⟩; replace hw := hw.symm; subst hw)
              go_roundw
              case measure => have := HJ.out; simp [intOf]; omega
              case rel => exact ⟨j + 1, HJ.out, by go_num, NX.out, by first | trivial | rfl⟩
          · have hjm : j = m + 1 := by omega
            have j1 : ¬ ((j : Int) < (m : Int) + 1) := by omega
            have hall : L.all nameB = true := by
              rw [hjm, ← HM.out, List.take_length] at hA
              exact hA
            have HAL := Lib.hid hall
            clear hjm hall hA hj hjl
            go_wp2
            go_ret2
            have hp : pathV l = (L, true) := by
              unfold pathV
              rw [if_neg H0.out, ← HLL.out, if_pos HAL.out]
            unfold PathPost
            rw [hp]
            refine ⟨A1, c1, ?_, ?_, HB.out⟩
            · show _ = Ending.returned (.tuple #[.slice A1 L.length c1, .bool true])
              rw [HM.out]
              rfl
            · show Src wr 1 A1 L.length (Ss L)
              rw [HM.out]
              exact R1.out.src (Ss_one' L)
end Go.Proofs.YtcomibocajjhoaaGreatDoor
