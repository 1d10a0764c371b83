/- LineMany: the walk of the law's body. -/
import Derived.Test.YtpfoohfgochaiaaGreatDoorLq
import Derived.Test.YtpfoohfgochaiaaGreatDoorBe
import Derived.Test.YtpfoohfgochaiaaGreatDoorCm
import Derived.Deep.QuietTactic
import Derived.BigQuiet
namespace Go.Proofs.YtpfoohfgochaiaaGreatDoor
open Go.RowKit
set_option maxHeartbeats 400000 in
theorem text_any (W : World) (s : ByteArray) (n : Nat) : Calls Tryz.prog 40 #[.string s, .int .i64 n] W fun e W' => e = .returned (.string ⟨(s.data.toList.take n).toArray⟩) ∧ W' = W := by
  have e : (⟨(s.data.toList.take n).toArray⟩ : ByteArray) = s.extract 0 (min (s.size : Int) (n : Int)).toNat := by
    refine ba_ext ?_
    rw [show (min (s.size : Int) (n : Int)).toNat = min s.size n by omega, ba_upto, ba_size]
    rw [← List.take_take]
    exact (List.take_of_length_le (by rw [List.length_take]; omega)).symm
  rw [e]
  clear e
  have l0 : (0 : Int) ≤ min (s.size : Int) (n : Int) := by omega
  have l1 : min (s.size : Int) (n : Int) ≤ (s.size : Int) := by omega
  go_enter Tryz.func40, Tryz.ntmps40
  go_wp2
  go_ret
  exact ⟨rfl, rfl⟩
/-- Lines laid so far. -/
def ManyAt (W : World) (n : Nat) (sv vv iv : Value) (wr : World) : Prop := ∃ (k : Nat) (u : ByteArray) (ws : List (List UInt8)), k ≤ n ∧ k ≤ 8 ∧ iv = .int .i64 k ∧ sv = .string u ∧ u.data.toList = itemsL ws ∧ ws.length = k ∧ (∀ t ∈ ws, t.length ≤ 50) ∧
  RowQ wr W.heap.size 9 1 vv k (Ss ws) ∧ Below W.heap.size W wr
theorem itemL_le (t : List UInt8) (h : t.length ≤ 50) : (itemL t).length ≤ 54 := by
  unfold itemL; split
  · rw [List.length_append, hx4_len]; omega
  · rw [hx4_len]; omega
theorem itemsL_le (ws : List (List UInt8)) (h : ∀ t ∈ ws, t.length ≤ 50) : (itemsL ws).length ≤ 54 * ws.length := by
  induction ws with
  | nil => simp [itemsL]
  | cons t ws ih =>
    have h1 := itemL_le t (h t (List.mem_cons_self ..))
    have h2 := ih (fun u hu => h u (List.mem_cons_of_mem _ hu))
    have e : itemsL (t :: ws) = itemL t ++ itemsL ws := by simp [itemsL]
    rw [e, List.length_append, List.length_cons]
    omega
theorem Ss_at (l : List (List UInt8)) (j : Nat) (h : j < l.length) : (Ss l)[j]? = some (.string ⟨(l.getD j []).toArray⟩) := by
  simp [Ss, List.getD_eq_getElem?_getD, h]
theorem Ss_one (l : List (List UInt8)) : ∀ v ∈ Ss l, v.oneCell' = true := by
  intro v hv
  simp only [Ss, List.mem_map] at hv
  obtain ⟨x, _, rfl⟩ := hv
  rfl
theorem Ss_snoc (l : List (List UInt8)) (t : List UInt8) : Ss l ++ [.string ⟨t.toArray⟩] = Ss (l ++ [t]) := by simp [Ss]
theorem putL_short {t : List UInt8} (h : t.length ≤ 50) : ((putL t).2 = true ∧ (putL t).1 = itemL t) ∨ ((putL t).2 = false ∧ t = [] ∧ itemL t = hx4 1) := by
  cases hp : (putL t).2
  · have e := putL_none t (by omega) hp
    subst e
    exact .inr ⟨rfl, rfl, rfl⟩
  · exact .inl ⟨rfl, putL_item t hp⟩
set_option maxRecDepth 100000 in
set_option maxHeartbeats 8000000 in
theorem lineMany_any (W : World) (A : Option Addr) (n c : Nat) (ts : List (List UInt8)) (t : ByteArray) (at_ : Int) (hs : Src W 1 A n (Ss ts)) (hc : n ≤ c) (_hm : c ≤ maxLen) (hat : -9223372036854775808 ≤ at_ ∧ at_ ≤ 9223372036854775807) (hG : Gl W) :
    Calls Tryz.prog 8 #[.slice A n c, .string t, .int .i64 at_] W fun e W' => e = .returned (.bool true) ∧ Below W.heap.size W W' := by
  have hbe := begun_any W hG
  have HB := Lib.hid hbe
  have HG := Lib.hid hG
  have HS := Lib.hid hs
  have HAT := Lib.hid hat
  have htl : ts.length = n := by have := hs.1; simpa using this
  have HTL := Lib.hid htl
  clear hbe hG hs hat htl
  go_enter Tryz.func8, Tryz.ntmps8
  go_upto_region 4 with (first
      | (go_at_call 23; refine HB.out.mono ?_; rintro e w1 ⟨rfl, hb⟩; have L1 := Lib.hid hb; clear hb))
  go_wp2
  go_loopw [8, 9, 10] (fun sv vv iv wr => ManyAt W n sv vv iv wr) (fun _ _ i _ => 8 - (intOf i).toNat)
  case atStart => exact ⟨0, _, [], by omega, by omega, rfl, rfl, rfl, rfl, fun t h => absurd h (by simp), RowQ.nil _ _ _ _, L1.out⟩
  case round =>
    obtain ⟨k, u, ws, hk, hk8, rfl, rfl, hu, hws, h50, hr, hb⟩ := hrel
    obtain ⟨A2, c2, rfl, hc2, hm2⟩ := hr.shape
    have hul : u.size ≤ 432 := by rw [ba_size, hu]; have := itemsL_le ws h50; omega
    have hu2 : (u.size : Int) ≤ 432 := by omega
    have DW : Hid (Deb wr) := HG.out.deb.belowB hb HG.out.deb.lt
    have HU := Lib.hid hu
    have HWS := Lib.hid hws
    have H50 := Lib.hid h50
    have R := Lib.hid hr
    have B := Lib.hid hb
    clear hu hws h50 hr hb
    by_cases hlt : k < n ∧ k < 8
    · obtain ⟨k1, k2⟩ := hlt
      obtain ⟨x, hx⟩ : ∃ x : List UInt8, x = ts.getD k [] := ⟨_, rfl⟩
      obtain ⟨ad, hA, hcs⟩ := (src_below HS.out B.out).2.1 (by omega)
      subst hA
      have hcell : wr.cell? (ad.add k) = some (.string ⟨x.toArray⟩) := by rw [hx]; exact hcs k _ (Ss_at ts k (by rw [HTL.out]; exact k1))
      have hxl : (x.take 50).length ≤ 50 := List.length_take_le _ _
      obtain ⟨y, hy⟩ : ∃ y : ByteArray, y = ⟨(x.take 50).toArray⟩ := ⟨_, rfl⟩
      have cT : ∀ w, Calls Tryz.prog 40 #[.string ⟨x.toArray⟩, .int .i64 50] w fun e w' => e = .returned (.string y) ∧ w' = w := fun w => by rw [hy]; exact text_any w ⟨x.toArray⟩ 50
      have hyl : y.data.toList = x.take 50 := by rw [hy]
      have hyz : y.size ≤ 140737488355328 := by rw [ba_size, hyl]; omega
      have l1 : (k : Int) < (n : Int) := by omega
      have l2 : (k : Int) < 8 := by omega
      have l3 : (n : Int) ≤ (c : Int) := by omega
      have HY := Lib.hid hyl
      have HXL := Lib.hid hxl
      rcases putL_short hxl with ⟨p1, p2⟩ | ⟨p1, p2, p3⟩
      · obtain ⟨p, hp⟩ : ∃ p : ByteArray, p = ⟨(itemL (x.take 50)).toArray⟩ := ⟨_, rfl⟩
        have cP : ∀ w, Deb w → Calls Tryz.prog 45 #[.string y] w fun e w' => e = .returned (.tuple #[.string p, .bool true]) ∧ Below w.heap.size w w' := fun w hd => by
          have := lput_any w y hyz hd
          rwa [hyl, p1, p2, ← hp] at this
        have hpl : p.data.toList = itemL (x.take 50) := by rw [hp]
        have hpz : (p.size : Int) ≤ 54 := by have := itemL_le _ hxl; rw [ba_size, hpl]; omega
        have HP := Lib.hid hpl
        clear hp hpl p1 p2 hcs hx hy hyl hyz hxl
        go_wp2_with (first
          | (go_at_call 40; refine (cT _).mono ?_; rintro e w' ⟨rfl, hw⟩; replace hw := hw.symm; subst hw)
          | (go_at_call 45; refine (cP _ DW.out).mono ?_; rintro e w2 ⟨rfl, hb⟩; have B2 := Lib.hid hb; have hcell2 := (hb.cell (p := ad.add k) (World.block_lt_of_cell? _ _ hcell)).trans hcell; clear hb)
          | (at_builtin; refine wpl_append rfl (.tmp 46) (.tmp 52) 47 rfl W.heap.size 9 (.string ⟨#[]⟩) 1 16 Tryz.underlying47 Tryz.infoS rfl (by decide) (.slice A2 k c2) k (Ss ws) rfl ((R.out.below B2.out).alloc _) _ 1 1 [.string y] rfl (src_box1 _ _ _ rfl _ rfl) (by omega) (by omega) (by rw [hsz]; have := (B.out.trans (B2.out.mono B.out.size)).size; omega) ?_; intro v3 w3 hr3 hg3 hat3; have R3 := Lib.hid hr3; have G3 := Lib.hid hg3; clear hr3 hg3 hat3))
        go_roundw
        case measure => simp [intOf]; omega
        case rel =>
          refine ⟨k + 1, _, ws ++ [x.take 50], by omega, by omega, by go_num, rfl, by rw [ba_append, HU.out, HP.out, itemsL_snoc], by rw [List.length_append, HWS.out]; rfl, fun t ht => ?_, ?_, ?_⟩
          · rcases List.mem_append.1 ht with h | h
            · exact H50.out t h
            · rw [List.mem_singleton.1 h]; exact HXL.out
          · have := R3.out
            rw [← Ss_snoc]
            have e : y = ⟨(x.take 50).toArray⟩ := ba_ext (by rw [HY.out])
            rw [← e]
            exact this
          · have hb2 := B.out.trans (B2.out.mono B.out.size)
            exact grown_low (hb2.alloc (by have := hb2.size; omega) _) (by rw [hsz]; have := hb2.size; omega) G3.out (fun j e => (R.out.lt j e).1)
      · obtain ⟨q, hq⟩ : ∃ q : ByteArray, q = ⟨(putL (x.take 50)).1.toArray⟩ := ⟨_, rfl⟩
        have cP : ∀ w, Deb w → Calls Tryz.prog 45 #[.string y] w fun e w' => e = .returned (.tuple #[.string q, .bool false]) ∧ Below w.heap.size w w' := fun w hd => by
          have := lput_any w y hyz hd
          rwa [hyl, p1, ← hq] at this
        have P2 := Lib.hid p2
        have P3 := Lib.hid p3
        clear p1 p2 p3 hcs hx hy hyl hyz hxl hq
        go_wp2_with (first
          | (go_at_call 40; refine (cT _).mono ?_; rintro e w' ⟨rfl, hw⟩; replace hw := hw.symm; subst hw)
          | (go_at_call 45; refine (cP _ DW.out).mono ?_; rintro e w2 ⟨rfl, hb⟩; have B2 := Lib.hid hb; have D2 : Hid (Deb w2) := Lib.hid (DW.out.below hb); clear hb)
          | (go_at_call 46; refine (delim_any _ D2.out).mono ?_; rintro e w4 ⟨rfl, hb⟩; have B4 := Lib.hid (B2.out.trans (hb.mono B2.out.size)); clear hb)
          | (at_builtin; refine wpl_append rfl (.tmp 57) (.tmp 58) 47 rfl W.heap.size 9 (.string ⟨#[]⟩) 1 16 Tryz.underlying47 Tryz.infoS rfl (by decide) (.slice A2 k c2) k (Ss ws) rfl ((R.out.below B4.out).alloc _) _ 1 1 [.string ⟨#[]⟩] rfl (src_box1 _ _ _ rfl _ rfl) (by omega) (by omega) (by rw [hsz]; have := (B.out.trans (B4.out.mono B.out.size)).size; omega) ?_; intro v3 w3 hr3 hg3 hat3; have R3 := Lib.hid hr3; have G3 := Lib.hid hg3; clear hr3 hg3 hat3))
        go_roundw
        case measure => simp [intOf]; omega
        case rel =>
          refine ⟨k + 1, _, ws ++ [x.take 50], by omega, by omega, by go_num, rfl, by rw [ba_append, HU.out, itemsL_snoc, P3.out]; rfl, by rw [List.length_append, HWS.out]; rfl, fun t ht => ?_, ?_, ?_⟩
          · rcases List.mem_append.1 ht with h | h
            · exact H50.out t h
            · rw [List.mem_singleton.1 h]; exact HXL.out
          · rw [← Ss_snoc, P2.out]
            exact R3.out
          · have hb2 := B.out.trans (B4.out.mono B.out.size)
            exact grown_low (hb2.alloc (by have := hb2.size; omega) _) (by rw [hsz]; have := hb2.size; omega) G3.out (fun j e => (R.out.lt j e).1)
    · have hg : ((k : Int) < (n : Int) ∧ decide ((k : Int) < 8) = false ∧ ¬ (k : Int) < 8) ∨ (decide ((k : Int) < (n : Int)) = false ∧ ¬ (k : Int) < (n : Int)) := by
        rcases Nat.lt_or_ge k n with h | h
        · exact .inl ⟨by omega, decide_eq_false (by omega), by omega⟩
        · exact .inr ⟨decide_eq_false (by omega), by omega⟩
      clear hlt HS
      obtain ⟨z, hz⟩ : ∃ z : ByteArray, z = ⟨(t.data.toList.take 20).toArray⟩ := ⟨_, rfl⟩
      have cT : ∀ w, Calls Tryz.prog 40 #[.string t, .int .i64 20] w fun e w' => e = .returned (.string z) ∧ w' = w := fun w => by rw [hz]; exact text_any w t 20
      have hzz : (z.size : Int) ≤ 20 := by rw [ba_size, hz]; simp only [List.length_take]; omega
      have h1000 : ∀ t ∈ ws, t.length ≤ 1000 := fun t h => Nat.le_trans (H50.out t h) (by omega)
      have hwl : (wireL ws).length = u.size + 4 := by rw [wireL_items, List.length_append, ← HU.out, ← ba_size]; rfl
      have hw1 : (u ++ ⟨#[48, 48, 48, 48]⟩ : ByteArray).data.toList = wireL ws := by rw [ba_append, HU.out, wireL_items]; rfl
      have cA : ∀ w, Deb w → Calls Tryz.prog 48 #[.string (u ++ ⟨#[48, 48, 48, 48]⟩ ++ z)] w fun e w' => ∃ v, e = .returned (.tuple #[v, .int .i64 ((u.size : Int) + 4), .int .i64 0]) ∧ RowQ w' w.heap.size 9 1 v k (Ss ws) ∧ Below w.heap.size w w' := fun w hd => by
        have := all_any w (u ++ ⟨#[48, 48, 48, 48]⟩ ++ z) (by rw [ba_size, ba_append, List.length_append, hw1, hwl, ← ba_size]; omega) hd
        refine this.mono ?_
        rintro e w' ⟨v, he, hr, hb⟩
        rw [ba_append, hw1, allR_wire z.data.toList ws _ 0 [] h1000 (by simp)] at he hr
        simp only [List.nil_append] at he hr
        rw [HWS.out] at hr
        refine ⟨v, ?_, hr, hb⟩
        rw [he, hwl]
        simp
      have cB : ∀ w (r : Nat), r < u.size + 4 → Deb w → Calls Tryz.prog 48 #[.string ((u ++ ⟨#[48, 48, 48, 48]⟩).extract 0 r)] w fun e w' => ∃ v, e = .returned (.tuple #[v, .int .i64 0, .int .i64 2]) ∧ RowQ w' w.heap.size 9 1 v 0 [] ∧ Below w.heap.size w w' := fun w r hr hd => by
        have hl : ((u ++ ⟨#[48, 48, 48, 48]⟩ : ByteArray).extract 0 r).data.toList = (wireL ws).take r := by rw [ba_upto, hw1]
        have := all_any w ((u ++ ⟨#[48, 48, 48, 48]⟩ : ByteArray).extract 0 r) (by rw [ba_size, hl, List.length_take]; omega) hd
        refine this.mono ?_
        rintro e w' ⟨v, he, hr', hb⟩
        rw [hl, allR_cut ws _ 0 r [] h1000 (by rw [hwl]; exact hr) (by simp)] at he hr'
        exact ⟨v, he, hr', hb⟩
      have CA := Lib.hid cA
      have CB := Lib.hid cB
      clear cA cB hw1 hwl h1000 hz
      rcases hg with ⟨g1, g2, g3⟩ | ⟨g2, g3⟩
      all_goals
        go_upto_region 14 with (first
          | (go_at_call 47; refine (flush_any _ DW.out).mono ?_; rintro e w2 ⟨rfl, hb⟩; have B2 := Lib.hid hb; have D2 : Hid (Deb w2) := Lib.hid (DW.out.below hb); clear hb))
        go_wp2_with (first
          | (go_at_call 40; refine (cT _).mono ?_; rintro e w' ⟨rfl, hw⟩; replace hw := hw.symm; subst hw)
          | (go_at_call 48; refine (CA.out _ D2.out).mono ?_; rintro e w5 ⟨v5, rfl, hr5, hb5⟩; obtain ⟨A5, c5, rfl, hc5, hm5⟩ := hr5.shape; have R5 := Lib.hid hr5; have R6 := Lib.hid ((R.out.below B2.out).below hb5); have D5 : Hid (Deb w5) := Lib.hid (D2.out.below hb5); have B3 := B.out.trans (B2.out.mono B.out.size); have B5 := Lib.hid (B3.trans (hb5.mono B3.size)); clear hr5 hb5 B3))
        go_loopw [89] (fun i wr => ∃ j : Nat, j ≤ k ∧ i = .int .i64 j ∧ RowQ wr w2.heap.size 9 1 (.slice A5 k c5) k (Ss ws) ∧ RowQ wr W.heap.size 9 1 (.slice A2 k c2) k (Ss ws) ∧ Deb wr ∧ Below W.heap.size W wr) (fun i _ => k - (intOf i).toNat)
        case atStart => exact ⟨0, by omega, rfl, R5.out, R6.out, D5.out, B5.out⟩
        case round =>
          obtain ⟨j, hj, rfl, h5, h6, hd, hb⟩ := hrel
          have DJ := Lib.hid hd
          have BJ := Lib.hid hb
          clear hd hb
          by_cases hjl : j < k
          · obtain ⟨g5, o5, hA5, _, _⟩ := h5.blk (by omega)
            subst hA5
            obtain ⟨g6, o6, hA6, _, _⟩ := h6.blk (by omega)
            subst hA6
            have x5 := (h5.cellAt j hjl _ (Ss_at ws j (by rw [HWS.out]; exact hjl))).1
            have x6 := (h6.cellAt j hjl _ (Ss_at ws j (by rw [HWS.out]; exact hjl))).1
            have j1 : (j : Int) < (k : Int) := by omega
            have j2 : (k : Int) ≤ (c5 : Int) := by omega
            have j3 : (k : Int) ≤ (c2 : Int) := by omega
            have H5 := Lib.hid h5
            have H6 := Lib.hid h6
            clear h5 h6
            go_wp2
            go_quiet (fail)
            go_wp2
            go_roundw
            case measure => simp [intOf]; omega
            case rel => exact ⟨j + 1, by omega, by go_num, H5.out, H6.out, DJ.out, below_drewN' BJ.out _⟩
          · have hjk : j = k := by omega
            subst hjk
            by_cases hneg : at_ < 0
            · go_wp2
              go_ret
              exact ⟨rfl, BJ.out⟩
            · obtain ⟨r, hr⟩ : ∃ r : Nat, at_ % ((u.size : Int) + 4) = (r : Int) := ⟨(at_ % ((u.size : Int) + 4)).toNat, by have := Int.emod_nonneg at_ (show (u.size : Int) + 4 ≠ 0 by omega); omega⟩
              have hrl : (r : Int) < (u.size : Int) + 4 := by rw [← hr]; exact Int.emod_lt_of_pos _ (by omega)
              have hr2 : at_.tmod ((u.size : Int) + 4) = (r : Int) := by rw [Int.tmod_eq_emod_of_nonneg (by omega)]; exact hr
              have hne : ((u.size : Int) + 4 == 0) = false := by rw [beq_eq_false_iff_ne]; omega
              go_wp2_with (go_at_call 48; refine (CB.out _ r (by omega) DJ.out).mono ?_; rintro e w7 ⟨v7, rfl, hr7, hb7⟩; obtain ⟨A7, c7, rfl, hc7, hm7⟩ := hr7.shape; have B7 := Lib.hid (BJ.out.trans (hb7.mono BJ.out.size)); clear hr7 hb7)
              go_ret
              exact ⟨rfl, B7.out⟩
end Go.Proofs.YtpfoohfgochaiaaGreatDoor
