/- Reads taken first in a region that draws its order and makes memory (the kit's held walk): cells, structs of many cells. The document's answer for a tree's bytes: Tree. -/
import Derived.Test.YtpbnigpdpkfpaaaGreatDoorP7x
import Derived.Test.YtpbnigpdpkfpaaaGreatDoorP5x
import Derived.Deep.RegionHeld
namespace Go.Proofs.YtpbnigpdpkfpaaaGreatDoor
open Go.RowKit
section
variable {P : Program} {ops : Array Oper} {S : World → Prop} {o : Oper} {a : Act}
theorem yi_val (hgd : Region.wanted o (yielded ops a.tmps) = true) (v : Value) (h : ∀ w, (execOp a.eval o).run P w = .ok (.value v) w) : YieldsIf P ops S o v a := .inl ⟨hgd, fun w _ => h w⟩
theorem yi_cell (hgd : Region.wanted o (yielded ops a.tmps) = true) (ty : TypeId) (x : Operand) (ho : o.op = .load ty x) (ad : Addr) (hx : a.eval x = .pointer (some ad)) (v : Value) (hagg : ∀ w, (isAgg ty).run P w = .ok false w) (hc : ∀ w, S w → w.cell? ad = some v) : YieldsIf P ops S o v a :=
  .inl ⟨hgd, fun w hw => by
    have h : (loadVar ty ad).run P w = .ok v w := by simp [loadVar, hagg, go_sem, hc w hw]
    unfold execOp
    simp only [ho, hx, Sem.run_bind, Sem.run_pure]
    simp [Instr.loadAt, Instr.sureAddr, h]⟩
theorem yi_loadS (hgd : Region.wanted o (yielded ops a.tmps) = true) (ty : TypeId) (x : Operand) (ho : o.op = .load ty x) (ad : Addr) (hx : a.eval x = .pointer (some ad)) (cs : List Value) (hagg : ∀ w, (isAgg ty).run P w = .ok true w) (hi : (P.info? ty).map (·.size) = some cs.length)
    (hc : ∀ w, S w → ∀ j u, cs[j]? = some u → w.cell? (ad.add j) = some u) : YieldsIf P ops S o (.agg cs.toArray) a :=
  .inl ⟨hgd, fun w hw => by
    unfold execOp
    simp only [ho, hx, Sem.run_bind, Sem.run_pure, Result.andThen_ok, run_loadS w ty ad cs (hagg w) hi (hc w hw)]⟩
end
end Go.Proofs.YtpbnigpdpkfpaaaGreatDoor
namespace Go.Proofs.YtpbnigpdpkfpaaaGreatDoor
open Go.RowKit
theorem treeB_take (es : List Ent) (i : Nat) (h : i < es.length) : treeB (es.take (i + 1)) = treeB (es.take i) ++ entB es[i]! := by
  rw [← treeB_snoc]
  congr 1
  rw [List.take_add_one, getElem!_pos es i h]
  simp [h]
theorem run_cutArr (w : World) (b o q : Nat) (hq : q < 32) : (Instr.sliceAt 24 (.pointer (some ⟨b, o, none⟩)) (some (.int .i64 (q : Int))) (some (.int .i64 ((q : Int) + 1))) none).run Tryz.prog w = .ok (.slice (some ⟨b, o + q, none⟩) 1 (32 - q)) w := by
  have hu := Tryz.underlying24
  have e1 : (q : Int) ≤ (q : Int) + 1 := by omega
  have e2 : (q : Int) + 1 ≤ 32 := by omega
  have e3 : ((q : Int) + 1).toNat = q + 1 := by omega
  have e4 : ¬ 32 = q := by omega
  simp [Instr.sliceAt, Instr.slice, Instr.sliceBounds, Instr.sliceBound, go_sem, run_underlying hu, e2, e3, e4]
  exact fun h => absurd h (by omega)
set_option maxRecDepth 20000 in
set_option maxHeartbeats 3200000 in
theorem refTree_any (W : World) (A : Option Addr) (n c : Nat) (es : List Ent) (hs : Src W entE.k A n (entE.row es)) (hm : mayT es = true) :
    Calls Tryz.prog 74 #[.slice A n c] W fun r W' => r = .returned (.string ⟨(treeB es).toArray⟩) ∧ W' = W := by
  have LN := Lib.hid (entE.src_len hs)
  have S0 := Lib.hid hs
  have n20 : n ≤ 20 := by have := mayT_len hm; have := LN.out; omega
  have n9 : (n : Int) ≤ 20 := by omega
  have HM := Lib.hid hm
  have HN := Lib.hid n20
  clear hs hm n20
  go_enter Tryz.func74, Tryz.ntmps74
  go_wp2
  go_loop [3, 4] (fun s i => ∃ (k : Nat) (x : ByteArray), k ≤ n ∧ i = .int .i64 k ∧ s = .string x ∧ x.data.toList = treeB (es.take k)) (fun _ i => n - (intOf i).toNat)
  case atStart => exact ⟨0, ⟨#[]⟩, by omega, rfl, rfl, rfl⟩
  case round =>
    obtain ⟨k, x, hk, rfl, rfl, hx⟩ := hrel
    by_cases hlt : k < n
    · have k1 : (k : Int) < (n : Int) := by omega
      have hln := LN.out
      obtain ⟨_, b, o, rfl, hc⟩ := entE.src_at S0.out (by omega)
      obtain ⟨e, he⟩ : ∃ e, e = es[k]! := ⟨_, rfl⟩
      have hc1 : ∀ i v, (encE e)[i]? = some v → W.cell? ⟨b, o + k * 34 + i, none⟩ = some v := by rw [he]; exact hc k hlt
      obtain ⟨sn, hsn⟩ : ∃ sn : ByteArray, sn = ⟨e.nm.toArray⟩ := ⟨_, rfl⟩
      have c0 : W.cell? ⟨b, o + k * 34, none⟩ = some (.string sn) := by rw [hsn]; exact hc1 0 _ rfl
      have c1 : W.cell? ⟨b, o + k * 34 + 1, none⟩ = some (.bool e.tr) := hc1 1 _ rfl
      have c2 : Hid (∀ j, j < 32 → W.cell? ⟨b, o + k * 34 + 2 + j, none⟩ = some (.int .u8 (ub (gb e.id.1 j)))) := Lib.hid fun j hj => by
        have := hc1 (j + 2) (.int .u8 (ub (gb e.id.1 j))) (by
          show (encI e.id)[j]? = _
          exact Bs_at e.id.1 j (by have := e.id.2; omega))
        rwa [show o + k * 34 + (j + 2) = o + k * 34 + 2 + j by omega] at this
      have hnm : sn.size ≤ 20 := by
        rw [hsn, ba_size]
        have := nameB_len (mayT_name HM.out k (by omega))
        rw [← he] at this
        exact this
      have hxs : x.size ≤ 1100 := by
        rw [ba_size, hx]
        have := treeB_len (es.take k) (fun y hy => by
          obtain ⟨j, hj, rfl⟩ := List.getElem_of_mem hy
          have hj2 : j < es.length := by rw [List.length_take] at hj; omega
          have := nameB_len (mayT_name HM.out j hj2)
          rw [getElem!_pos es j hj2] at this
          simpa using this)
        rw [List.length_take] at this
        have := HN.out
        omega
      have hnx := treeB_take es k (by omega)
      rw [← he, ← hx] at hnx
      have NX := Lib.hid hnx
      have SN := Lib.hid hsn
      have HLT := Lib.hid hlt
      clear hc hc1 he hx hnx hsn hln hk
      obtain ⟨tr, htr⟩ : ∃ tr, tr = e.tr := ⟨_, rfl⟩
      rw [← htr] at c1
      have TR := Lib.hid htr
      clear htr
      cases tr
      · have hy : (x ++ ({ data := #[102, 32] } : ByteArray) ++ (sn ++ ({ data := #[0] } : ByteArray))).data.toList ++ e.id.1 = treeB (es.take (k + 1)) := by
          rw [NX.out]
          unfold entB
          rw [← TR.out]
          simp only [ba_append, SN.out]
          simp
        have hys : (x ++ ({ data := #[102, 32] } : ByteArray) ++ (sn ++ ({ data := #[0] } : ByteArray))).size ≤ 1200 := by
          simp only [ByteArray.size_append]
          have e1 : (ByteArray.mk #[102, 32]).size = 2 := rfl
          have e2 : (ByteArray.mk #[0]).size = 1 := rfl
          omega
        have HY := Lib.hid hy
        clear hy
        go_wp2
        generalize (x ++ ({ data := #[102, 32] } : ByteArray) ++ (sn ++ ({ data := #[0] } : ByteArray))) = y at HY hys ⊢
        clear c0 c1
        go_loop [3, 5] (fun s j => ∃ (q : Nat) (z : ByteArray), q ≤ 32 ∧ j = .int .i64 q ∧ s = .string z ∧ z.data.toList = y.data.toList ++ e.id.1.take q) (fun _ j => 32 - (intOf j).toNat)
        case atStart => exact ⟨0, y, by omega, rfl, rfl, by simp⟩
        case round =>
          obtain ⟨q, z, hq, rfl, rfl, hz⟩ := hrel
          have h32 := e.id.2
          have hzs : z.size ≤ 1300 := by rw [ba_size, hz, List.length_append, List.length_take, ← ba_size]; omega
          by_cases hlq : q < 32
          · have q1 : (q : Int) < 32 := by omega
            have hsrc : Src W 1 (some ⟨b, o + k * 34 + 2 + q, none⟩) 1 (Bs [gb e.id.1 q]) := ⟨rfl, fun _ => ⟨_, rfl, fun j u hu => by
              have hj : j < 1 := (List.getElem?_eq_some_iff.1 hu).1
              obtain rfl : j = 0 := by omega
              have h1 := c2.out q hlq
              have h2 : u = .int .u8 (ub (gb e.id.1 q)) := by simpa [Bs] using hu.symm
              rw [h2]
              exact h1⟩, Bs_one _⟩
            have hnz : (z ++ (⟨#[gb e.id.1 q]⟩ : ByteArray)).data.toList = y.data.toList ++ e.id.1.take (q + 1) := by
              rw [ba_append, hz, List.append_assoc]
              congr 1
              rw [List.take_add_one]
              simp [gb, List.getD_eq_getElem?_getD, show q < e.id.1.length by omega]
            have hcut := run_cutArr W b (o + k * 34 + 2) q hlq
            have HS := Lib.hid hsrc
            have NZ := Lib.hid hnz
            have HQ := Lib.hid hlq
            clear hsrc hnz hz h32 hq hlq
            generalize gb e.id.1 q = u8 at HS NZ
            go_wp2_with (refine wpl_conv rfl 53 9 _ rfl (.string ⟨#[u8]⟩) (run_str _ (some ⟨b, o + k * 34 + 2 + q, none⟩) 1 (32 - q) [u8] HS.out) ?_)
            go_round
            case measure => simp [intOf]; have := HQ.out; omega
            case rel => exact ⟨q + 1, _, by have := HQ.out; omega, by go_num, rfl, NZ.out⟩
          · have : q = 32 := by omega
            subst this
            have hzz : z.data.toList = treeB (es.take (k + 1)) := by rw [hz, List.take_of_length_le (by omega), HY.out]
            have HZ := Lib.hid hzz
            clear hz hzz h32
            go_wp2
            go_round
            case measure => simp [intOf]; have := HLT.out; omega
            case rel => exact ⟨k + 1, z, by have := HLT.out; omega, by go_num, rfl, HZ.out⟩
      · have hy : (x ++ ({ data := #[100, 32] } : ByteArray) ++ (sn ++ ({ data := #[0] } : ByteArray))).data.toList ++ e.id.1 = treeB (es.take (k + 1)) := by
          rw [NX.out]
          unfold entB
          rw [← TR.out]
          simp only [ba_append, SN.out]
          simp
        have hys : (x ++ ({ data := #[100, 32] } : ByteArray) ++ (sn ++ ({ data := #[0] } : ByteArray))).size ≤ 1200 := by
          simp only [ByteArray.size_append]
          have e1 : (ByteArray.mk #[100, 32]).size = 2 := rfl
          have e2 : (ByteArray.mk #[0]).size = 1 := rfl
          omega
        have HY := Lib.hid hy
        clear hy
        go_wp2
        generalize (x ++ ({ data := #[100, 32] } : ByteArray) ++ (sn ++ ({ data := #[0] } : ByteArray))) = y at HY hys ⊢
        clear c0 c1
        go_loop [3, 5] (fun s j => ∃ (q : Nat) (z : ByteArray), q ≤ 32 ∧ j = .int .i64 q ∧ s = .string z ∧ z.data.toList = y.data.toList ++ e.id.1.take q) (fun _ j => 32 - (intOf j).toNat)
        case atStart => exact ⟨0, y, by omega, rfl, rfl, by simp⟩
        case round =>
          obtain ⟨q, z, hq, rfl, rfl, hz⟩ := hrel
          have h32 := e.id.2
          have hzs : z.size ≤ 1300 := by rw [ba_size, hz, List.length_append, List.length_take, ← ba_size]; omega
          by_cases hlq : q < 32
          · have q1 : (q : Int) < 32 := by omega
            have hsrc : Src W 1 (some ⟨b, o + k * 34 + 2 + q, none⟩) 1 (Bs [gb e.id.1 q]) := ⟨rfl, fun _ => ⟨_, rfl, fun j u hu => by
              have hj : j < 1 := (List.getElem?_eq_some_iff.1 hu).1
              obtain rfl : j = 0 := by omega
              have h1 := c2.out q hlq
              have h2 : u = .int .u8 (ub (gb e.id.1 q)) := by simpa [Bs] using hu.symm
              rw [h2]
              exact h1⟩, Bs_one _⟩
            have hnz : (z ++ (⟨#[gb e.id.1 q]⟩ : ByteArray)).data.toList = y.data.toList ++ e.id.1.take (q + 1) := by
              rw [ba_append, hz, List.append_assoc]
              congr 1
              rw [List.take_add_one]
              simp [gb, List.getD_eq_getElem?_getD, show q < e.id.1.length by omega]
            have hcut := run_cutArr W b (o + k * 34 + 2) q hlq
            have HS := Lib.hid hsrc
            have NZ := Lib.hid hnz
            have HQ := Lib.hid hlq
            clear hsrc hnz hz h32 hq hlq
            generalize gb e.id.1 q = u8 at HS NZ
            go_wp2_with (refine wpl_conv rfl 53 9 _ rfl (.string ⟨#[u8]⟩) (run_str _ (some ⟨b, o + k * 34 + 2 + q, none⟩) 1 (32 - q) [u8] HS.out) ?_)
            go_round
            case measure => simp [intOf]; have := HQ.out; omega
            case rel => exact ⟨q + 1, _, by have := HQ.out; omega, by go_num, rfl, NZ.out⟩
          · have : q = 32 := by omega
            subst this
            have hzz : z.data.toList = treeB (es.take (k + 1)) := by rw [hz, List.take_of_length_le (by omega), HY.out]
            have HZ := Lib.hid hzz
            clear hz hzz h32
            go_wp2
            go_round
            case measure => simp [intOf]; have := HLT.out; omega
            case rel => exact ⟨k + 1, z, by have := HLT.out; omega, by go_num, rfl, HZ.out⟩
    · have : k = n := by omega
      subst this
      have hfin : x = ⟨(treeB es).toArray⟩ := ba_ext (by rw [hx, List.take_of_length_le (by have := LN.out; omega)])
      subst hfin
      clear hx
      go_wp2
      go_ret
      exact ⟨rfl, rfl⟩
end Go.Proofs.YtpbnigpdpkfpaaaGreatDoor
