/- tree.Put: a tree's bytes, or none. -/
import Derived.Test.YtpbnigpdpkfpaaaGreatDoorAs
import Derived.Test.YtpbnigpdpkfpaaaGreatDoorP13x
namespace Go.Proofs.YtpbnigpdpkfpaaaGreatDoor
open Go.RowKit
theorem blk_id {w : World} {g : Nat} {e : Ent} (h : Blk w g 99 (encE e)) : Src w 1 (some ⟨g, 2, none⟩) 32 (Bs e.id.1) := by
  have hl := e.id.2
  refine ⟨by simp [hl], fun _ => ⟨_, rfl, fun j u hu => ?_⟩, Bs_one _⟩
  rw [addr_row _ rfl]
  refine h.cell _ u ?_
  show (encE e)[2 + j]? = some u
  rw [Nat.add_comm]
  exact hu
theorem run_wholeArr (w : World) (b o : Nat) : (Instr.sliceAt 24 (.pointer (some ⟨b, o, none⟩)) none none none).run Tryz.prog w = .ok (.slice (some ⟨b, o, none⟩) 32 32) w := by
  have hu := Tryz.underlying24
  simp [Instr.sliceAt, Instr.slice, Instr.sliceBounds, go_sem, run_underlying hu]
/-- What is gathered so far. -/
def PutInT (W : World) (es : List Ent) (k : Nat) (v : Value) (wr : World) : Prop := ∃ m, m ≤ k * 55 ∧ RowQ wr W.heap.size 5 1 v m (Bs (treeB (es.take k))) ∧ Below W.heap.size W wr
def putV (es : List Ent) : Value := .tuple #[.string ⟨(bif mayT es then treeB es else []).toArray⟩, .bool (mayT es)]
set_option maxRecDepth 20000 in
set_option maxHeartbeats 8000000 in
theorem treePut_yes (W : World) (A : Option Addr) (n c : Nat) (es : List Ent) (hs : Src W entE.k A n (entE.row es)) (hf : NamesFit es) (hm : mayT es = true) :
    Calls Tryz.prog 58 #[.slice A n c] W fun r W' => r = .returned (.tuple #[.string ⟨(treeB es).toArray⟩, .bool true]) ∧ Below W.heap.size W W' := by
  have LN := Lib.hid (entE.src_len hs)
  have S0 := Lib.hid hs
  have n20 : n ≤ 20 := by have := mayT_len hm; have := LN.out; omega
  have n9 : (n : Int) ≤ 20 := by omega
  have cM := treeMay_any W A n c es hs (by omega) hf
  rw [hm] at cM
  have CM := Lib.hid cM
  have HM := Lib.hid hm
  have HN := Lib.hid n20
  clear hs hf hm n20 cM
  go_enter Tryz.func58, Tryz.ntmps58
  go_wp2_with (go_at_call 71; refine CM.out.mono ?_; rintro e w1 ⟨rfl, h1⟩; have B1 := Lib.hid h1; clear h1)
  go_loopw [4, 13] (fun v i wr => ∃ k : Nat, k ≤ n ∧ i = .int .i64 k ∧ PutInT W es k v wr) (fun _ i _ => n - (intOf i).toNat)
  case atStart => exact ⟨0, by omega, rfl, 0, by omega, RowQ.nil _ _ _ _, B1.out⟩
  case round =>
    obtain ⟨k, hk, rfl, m, hmk, hr, hb⟩ := hrel
    obtain ⟨v, hvv⟩ : ∃ v, v = u4 := ⟨_, rfl⟩
    subst hvv
    have HR := Lib.hid hr
    have BR := Lib.hid hb
    clear hr hb
    by_cases hlt : k < n
    · have hln := LN.out
      have k1 : (k : Int) < (n : Int) := by omega
      obtain ⟨_, b, o, rfl, hc⟩ := entE.src_at (entE.src_below S0.out BR.out) (by omega)
      have c1 : ∀ j v, (encE es[k]!)[j]? = some v → wr.cell? ((⟨b, o + k * 34, none⟩ : Addr).add j) = some v := entE.at_elem (hc k hlt)
      obtain ⟨e, he⟩ : ∃ e, e = es[k]! := ⟨_, rfl⟩
      rw [← he] at c1
      have hnm : e.nm.length ≤ 20 := by rw [he]; exact nameB_len (mayT_name HM.out k (by omega))
      have hnx := treeB_take es k (by omega)
      rw [← he] at hnx
      have NX := Lib.hid hnx
      have i1 := infoE e
      have I1 := Lib.hid i1
      have C1 := Lib.hid c1
      have m0 : m ≤ 1100 := by have := HN.out; omega
      have M0 := Lib.hid m0
      have MK := Lib.hid hmk
      have HLT := Lib.hid hlt
      obtain ⟨bs, hbs⟩ : ∃ bs, bs = treeB (es.take k) := ⟨_, rfl⟩
      rw [← hbs] at HR NX
      clear hc c1 i1 he hnx hbs hln m0 hmk hlt hk
      go_upto_region 7 with (first
        | (refine wpl_loadS rfl 99 (.tmp 15) rfl ⟨b, o + k * 34, none⟩ rfl (encE e) Tryz.isAgg99 I1.out C1.out ?_)
        | (refine wpl_storeS rfl 99 (.tmp 6) _ rfl wr.heap.size (encE e) rfl rfl 99 _ (Blk.new wr _ _) I1.out (by rw [show (encE e).length = 34 from entE.len _]; rfl) (entE.one _) ?_))
      generalize hw1 : World.setRow _ _ _ = w2
      have E1 : Below wr.heap.size wr w2 := by rw [← hw1]; exact (ent_laid wr e).1
      have K1 : Blk w2 wr.heap.size 99 (encE e) := by rw [← hw1]; exact (ent_laid wr e).2
      have P0 : PutSt W w2 v m bs 99 wr.heap.size (encE e) := ⟨HR.out.below E1, K1, fun e => by have := (HR.out.lt _ e).2; omega, BR.out.trans (E1.mono BR.out.size)⟩
      have PS := Lib.hid P0
      obtain ⟨sn, hsn⟩ : ∃ sn : ByteArray, sn = ⟨e.nm.toArray⟩ := ⟨_, rfl⟩
      have sz : sn.size ≤ 20 := by rw [hsn, ba_size]; exact hnm
      have cn : ∀ w, Blk w wr.heap.size 99 (encE e) → w.cell? ⟨wr.heap.size, 0, none⟩ = some (.string sn) := fun w h => by rw [hsn]; exact h.cell 0 _ rfl
      have ct : w2.cell? ⟨wr.heap.size, 1, none⟩ = some (.bool e.tr) := K1.cell 1 _ rfl
      have SN := Lib.hid hsn
      have SZ := Lib.hid sz
      have CN := Lib.hid cn
      have M0 := M0
      clear hw1 E1 K1 P0 C1 I1 hnm hsn sz cn
      generalize wr.heap.size = g at PS CN ct ⊢
      obtain ⟨tr, htr⟩ : ∃ tr, tr = e.tr := ⟨_, rfl⟩
      rw [← htr] at ct
      have TR := Lib.hid htr
      have wh := fun w => run_wholeArr w g 2
      have k2 : (ByteArray.mk #[102, 32]).size = 2 := rfl
      have k3 : (ByteArray.mk #[100, 32]).size = 2 := rfl
      have KS := Lib.hid (And.intro k2 k3)
      clear htr k2 k3
      cases tr
      ·
        go_upto_region 10 with fail
        refine wp_region_any (by kernel_rfl) ?_
        change wpAny _ _ _ _ _ _ _ (World.drew _)
        have PD : Hid (PutSt W w2.drew v m bs 99 g (encE e)) := Lib.hid ⟨PS.out.row.drewN 1, PS.out.blk.drew, PS.out.ne, PS.out.low.drew⟩
        generalize World.drew w2 = v0 at PD ⊢
        clear PS ct
        refine wpAny_bare [0, 1, 3] 6 (by rfl) (by kernel_rfl) (fun _ _ _ d _ h => by cases d <;> exact h) ?_
        simp only [bareO, List.filterMap_cons, List.filterMap_nil, List.getElem?_toArray, List.getElem?_cons_succ, List.getElem?_cons_zero]
        repeat (first | quiet_step (fail) | go_big_quiet_step (fail))
        refine wpQuiet_nil ?_
        refine wpAny_ready (rs := [2, 4, 6]) (by kernel_rfl) (by simp) ?_
        refine (AllReady.cons rfl (fun K hK => ?_) (AllReady.cons rfl (fun K hK => ?_) (AllReady.cons rfl (fun K hK => ?_) AllReady.nil)))
        ·
          refine step_append_S rfl (.tmp 19) (.tmp 20) rfl W.heap.size v m (Bs bs) rfl PD.out.row (⟨#[102, 32]⟩ : ByteArray) rfl (by have := M0.out; have := SZ.out; have := KS.out; omega) PD.out.low.size ?_
          intro v1 w1 hr hg ha
          have P1 := Lib.hid (PD.out.app hr hg ha)
          clear hr hg ha PD
          refine hK _ _ ?_
          clear hK K
          refine wpAny_ready (rs := [4, 6]) (by kernel_rfl) (by simp) ?_
          refine (AllReady.cons rfl (fun K hK => ?_) (AllReady.cons rfl (fun K hK => ?_) AllReady.nil))
          ·
            refine step_cell rfl 9 (.tmp 22) rfl ⟨g, 0, none⟩ rfl (.string sn) (Tryz.isAgg9 _) (CN.out _ P1.out.blk) ?_
            refine hK _ _ ?_
            clear hK K
            refine wpAny_ready (rs := [5, 6]) (by kernel_rfl) (by simp) ?_
            refine (AllReady.cons rfl (fun K hK => ?_) (AllReady.cons rfl (fun K hK => ?_) AllReady.nil))
            ·
              refine step_append_S rfl (.tmp 21) (.tmp 23) rfl W.heap.size v1 (m + (⟨#[102, 32]⟩ : ByteArray).size) (Bs (bs ++ (⟨#[102, 32]⟩ : ByteArray).data.toList)) rfl P1.out.row sn rfl (by have := M0.out; have := SZ.out; have := KS.out; omega) P1.out.low.size ?_
              intro v3 w3 hr hg ha
              have P3 := Lib.hid (P1.out.app hr hg ha)
              clear hr hg ha P1
              refine hK _ _ ?_
              clear hK K
              refine wpAny_ready (rs := [6]) (by kernel_rfl) (by simp) ?_
              refine (AllReady.cons rfl (fun K hK => ?_) AllReady.nil)
              refine step_build0 rfl rfl ?_
              have P4 := Lib.hid (P3.out.alloc (.cells #[.int .u8 0] 5))
              have X4 := Lib.hid (Box0.new P3.out)
              clear P3
              obtain ⟨wb4, hwb⟩ : ∃ x, x = World.alloc w3 (.cells #[.int .u8 0] 5) := ⟨_, rfl⟩
              rw [← hwb] at P4 X4 ⊢
              clear hwb
              generalize Array.size (World.heap w3) = b4 at X4 ⊢
              refine hK _ _ ?_
              clear hK K
              refine wpAny_ready (rs := [7]) (by kernel_rfl) (by simp) ?_
              refine (AllReady.cons rfl (fun K hK => ?_) AllReady.nil)
              refine step_append_Q rfl (.tmp 24) (.tmp 25) 53 rfl W.heap.size 5 (.int .u8 0) 1 1 Tryz.underlying53 Tryz.infoB rfl (by decide) v3 ((m + (⟨#[102, 32]⟩ : ByteArray).size) + sn.size) (Bs ((bs ++ (⟨#[102, 32]⟩ : ByteArray).data.toList) ++ sn.data.toList)) rfl P4.out.row (some ⟨b4, 0, none⟩) 1 1 (Bs [0]) rfl X4.out.src (by have := M0.out; have := SZ.out; have := KS.out; omega) (by have := M0.out; have := SZ.out; have := KS.out; omega) P4.out.low.size ?_
              intro v5 w5 hr hg ha
              have P5 := Lib.hid (P4.out.app hr hg ha)
              clear hr hg ha P4 X4
              refine hK _ _ ?_
              clear hK K
              refine wpAny_ready (rs := [8]) (by kernel_rfl) (by simp) ?_
              refine (AllReady.cons rfl (fun K hK => ?_) AllReady.nil)
              go_simp
              refine hK _ _ ?_
              clear hK K
              refine wpAny_done (by kernel_rfl) ?_ _
              go_wp2_with (at_builtin; refine wpl_append rfl (.tmp 27) (.tmp 29) 53 rfl W.heap.size 5 (.int .u8 0) 1 1 Tryz.underlying53 Tryz.infoB rfl (by decide) v5 (((m + (⟨#[102, 32]⟩ : ByteArray).size) + sn.size) + 1) (Bs (((bs ++ (⟨#[102, 32]⟩ : ByteArray).data.toList) ++ sn.data.toList) ++ [0])) rfl P5.out.row (some ⟨g, 2, none⟩) 32 32 (Bs e.id.1) rfl (blk_id P5.out.blk) (by have := M0.out; have := SZ.out; have := KS.out; omega) (by have := M0.out; have := SZ.out; have := KS.out; omega) P5.out.low.size ?_; intro v9 w9 hr hg ha; have P9 := Lib.hid (P5.out.app hr hg ha); clear hr hg ha)
              go_roundw
              case measure => simp [intOf]; have := HLT.out; omega
              case rel =>
                refine ⟨k + 1, HLT.out, by go_num, (((m + (⟨#[102, 32]⟩ : ByteArray).size) + sn.size) + 1) + 32, ?_, ?_, P9.out.low⟩
                · have := MK.out; have := SZ.out; have := KS.out; omega
                · have h9 := P9.out.row
                  rw [NX.out]
                  unfold entB
                  rw [← TR.out]
                  simpa [SN.out] using h9
            ·
              refine step_build0 rfl rfl ?_
              have P7 := Lib.hid (P1.out.alloc (.cells #[.int .u8 0] 5))
              have X7 := Lib.hid (Box0.new P1.out)
              clear P1
              obtain ⟨wb7, hwb⟩ : ∃ x, x = World.alloc w1 (.cells #[.int .u8 0] 5) := ⟨_, rfl⟩
              rw [← hwb] at P7 X7 ⊢
              clear hwb
              generalize Array.size (World.heap w1) = b7 at X7 ⊢
              refine hK _ _ ?_
              clear hK K
              refine wpAny_ready (rs := [5]) (by kernel_rfl) (by simp) ?_
              refine (AllReady.cons rfl (fun K hK => ?_) AllReady.nil)
              refine step_append_S rfl (.tmp 21) (.tmp 23) rfl W.heap.size v1 (m + (⟨#[102, 32]⟩ : ByteArray).size) (Bs (bs ++ (⟨#[102, 32]⟩ : ByteArray).data.toList)) rfl P7.out.row sn rfl (by have := M0.out; have := SZ.out; have := KS.out; omega) P7.out.low.size ?_
              intro v8 w8 hr hg ha
              have P8 := Lib.hid (P7.out.app hr hg ha)
              have X8 := Lib.hid (X7.out.app hg ha)
              clear hr hg ha P7 X7
              refine hK _ _ ?_
              clear hK K
              refine wpAny_ready (rs := [7]) (by kernel_rfl) (by simp) ?_
              refine (AllReady.cons rfl (fun K hK => ?_) AllReady.nil)
              refine step_append_Q rfl (.tmp 24) (.tmp 25) 53 rfl W.heap.size 5 (.int .u8 0) 1 1 Tryz.underlying53 Tryz.infoB rfl (by decide) v8 ((m + (⟨#[102, 32]⟩ : ByteArray).size) + sn.size) (Bs ((bs ++ (⟨#[102, 32]⟩ : ByteArray).data.toList) ++ sn.data.toList)) rfl P8.out.row (some ⟨b7, 0, none⟩) 1 1 (Bs [0]) rfl X8.out.src (by have := M0.out; have := SZ.out; have := KS.out; omega) (by have := M0.out; have := SZ.out; have := KS.out; omega) P8.out.low.size ?_
              intro v9 w9 hr hg ha
              have P9 := Lib.hid (P8.out.app hr hg ha)
              clear hr hg ha P8 X8
              refine hK _ _ ?_
              clear hK K
              refine wpAny_ready (rs := [8]) (by kernel_rfl) (by simp) ?_
              refine (AllReady.cons rfl (fun K hK => ?_) AllReady.nil)
              go_simp
              refine hK _ _ ?_
              clear hK K
              refine wpAny_done (by kernel_rfl) ?_ _
              go_wp2_with (at_builtin; refine wpl_append rfl (.tmp 27) (.tmp 29) 53 rfl W.heap.size 5 (.int .u8 0) 1 1 Tryz.underlying53 Tryz.infoB rfl (by decide) v9 (((m + (⟨#[102, 32]⟩ : ByteArray).size) + sn.size) + 1) (Bs (((bs ++ (⟨#[102, 32]⟩ : ByteArray).data.toList) ++ sn.data.toList) ++ [0])) rfl P9.out.row (some ⟨g, 2, none⟩) 32 32 (Bs e.id.1) rfl (blk_id P9.out.blk) (by have := M0.out; have := SZ.out; have := KS.out; omega) (by have := M0.out; have := SZ.out; have := KS.out; omega) P9.out.low.size ?_; intro v9 w9 hr hg ha; have P9 := Lib.hid (P9.out.app hr hg ha); clear hr hg ha)
              go_roundw
              case measure => simp [intOf]; have := HLT.out; omega
              case rel =>
                refine ⟨k + 1, HLT.out, by go_num, (((m + (⟨#[102, 32]⟩ : ByteArray).size) + sn.size) + 1) + 32, ?_, ?_, P9.out.low⟩
                · have := MK.out; have := SZ.out; have := KS.out; omega
                · have h9 := P9.out.row
                  rw [NX.out]
                  unfold entB
                  rw [← TR.out]
                  simpa [SN.out] using h9
          ·
            refine step_build0 rfl rfl ?_
            have P11 := Lib.hid (P1.out.alloc (.cells #[.int .u8 0] 5))
            have X11 := Lib.hid (Box0.new P1.out)
            clear P1
            obtain ⟨wb11, hwb⟩ : ∃ x, x = World.alloc w1 (.cells #[.int .u8 0] 5) := ⟨_, rfl⟩
            rw [← hwb] at P11 X11 ⊢
            clear hwb
            generalize Array.size (World.heap w1) = b11 at X11 ⊢
            refine hK _ _ ?_
            clear hK K
            refine wpAny_ready (rs := [4]) (by kernel_rfl) (by simp) ?_
            refine (AllReady.cons rfl (fun K hK => ?_) AllReady.nil)
            refine step_cell rfl 9 (.tmp 22) rfl ⟨g, 0, none⟩ rfl (.string sn) (Tryz.isAgg9 _) (CN.out _ P11.out.blk) ?_
            refine hK _ _ ?_
            clear hK K
            refine wpAny_ready (rs := [5]) (by kernel_rfl) (by simp) ?_
            refine (AllReady.cons rfl (fun K hK => ?_) AllReady.nil)
            refine step_append_S rfl (.tmp 21) (.tmp 23) rfl W.heap.size v1 (m + (⟨#[102, 32]⟩ : ByteArray).size) (Bs (bs ++ (⟨#[102, 32]⟩ : ByteArray).data.toList)) rfl P11.out.row sn rfl (by have := M0.out; have := SZ.out; have := KS.out; omega) P11.out.low.size ?_
            intro v13 w13 hr hg ha
            have P13 := Lib.hid (P11.out.app hr hg ha)
            have X13 := Lib.hid (X11.out.app hg ha)
            clear hr hg ha P11 X11
            refine hK _ _ ?_
            clear hK K
            refine wpAny_ready (rs := [7]) (by kernel_rfl) (by simp) ?_
            refine (AllReady.cons rfl (fun K hK => ?_) AllReady.nil)
            refine step_append_Q rfl (.tmp 24) (.tmp 25) 53 rfl W.heap.size 5 (.int .u8 0) 1 1 Tryz.underlying53 Tryz.infoB rfl (by decide) v13 ((m + (⟨#[102, 32]⟩ : ByteArray).size) + sn.size) (Bs ((bs ++ (⟨#[102, 32]⟩ : ByteArray).data.toList) ++ sn.data.toList)) rfl P13.out.row (some ⟨b11, 0, none⟩) 1 1 (Bs [0]) rfl X13.out.src (by have := M0.out; have := SZ.out; have := KS.out; omega) (by have := M0.out; have := SZ.out; have := KS.out; omega) P13.out.low.size ?_
            intro v14 w14 hr hg ha
            have P14 := Lib.hid (P13.out.app hr hg ha)
            clear hr hg ha P13 X13
            refine hK _ _ ?_
            clear hK K
            refine wpAny_ready (rs := [8]) (by kernel_rfl) (by simp) ?_
            refine (AllReady.cons rfl (fun K hK => ?_) AllReady.nil)
            go_simp
            refine hK _ _ ?_
            clear hK K
            refine wpAny_done (by kernel_rfl) ?_ _
            go_wp2_with (at_builtin; refine wpl_append rfl (.tmp 27) (.tmp 29) 53 rfl W.heap.size 5 (.int .u8 0) 1 1 Tryz.underlying53 Tryz.infoB rfl (by decide) v14 (((m + (⟨#[102, 32]⟩ : ByteArray).size) + sn.size) + 1) (Bs (((bs ++ (⟨#[102, 32]⟩ : ByteArray).data.toList) ++ sn.data.toList) ++ [0])) rfl P14.out.row (some ⟨g, 2, none⟩) 32 32 (Bs e.id.1) rfl (blk_id P14.out.blk) (by have := M0.out; have := SZ.out; have := KS.out; omega) (by have := M0.out; have := SZ.out; have := KS.out; omega) P14.out.low.size ?_; intro v9 w9 hr hg ha; have P9 := Lib.hid (P14.out.app hr hg ha); clear hr hg ha)
            go_roundw
            case measure => simp [intOf]; have := HLT.out; omega
            case rel =>
              refine ⟨k + 1, HLT.out, by go_num, (((m + (⟨#[102, 32]⟩ : ByteArray).size) + sn.size) + 1) + 32, ?_, ?_, P9.out.low⟩
              · have := MK.out; have := SZ.out; have := KS.out; omega
              · have h9 := P9.out.row
                rw [NX.out]
                unfold entB
                rw [← TR.out]
                simpa [SN.out] using h9
        ·
          refine step_cell rfl 9 (.tmp 22) rfl ⟨g, 0, none⟩ rfl (.string sn) (Tryz.isAgg9 _) (CN.out _ PD.out.blk) ?_
          refine hK _ _ ?_
          clear hK K
          refine wpAny_ready (rs := [2, 6]) (by kernel_rfl) (by simp) ?_
          refine (AllReady.cons rfl (fun K hK => ?_) (AllReady.cons rfl (fun K hK => ?_) AllReady.nil))
          ·
            refine step_append_S rfl (.tmp 19) (.tmp 20) rfl W.heap.size v m (Bs bs) rfl PD.out.row (⟨#[102, 32]⟩ : ByteArray) rfl (by have := M0.out; have := SZ.out; have := KS.out; omega) PD.out.low.size ?_
            intro v17 w17 hr hg ha
            have P17 := Lib.hid (PD.out.app hr hg ha)
            clear hr hg ha PD
            refine hK _ _ ?_
            clear hK K
            refine wpAny_ready (rs := [5, 6]) (by kernel_rfl) (by simp) ?_
            refine (AllReady.cons rfl (fun K hK => ?_) (AllReady.cons rfl (fun K hK => ?_) AllReady.nil))
            ·
              refine step_append_S rfl (.tmp 21) (.tmp 23) rfl W.heap.size v17 (m + (⟨#[102, 32]⟩ : ByteArray).size) (Bs (bs ++ (⟨#[102, 32]⟩ : ByteArray).data.toList)) rfl P17.out.row sn rfl (by have := M0.out; have := SZ.out; have := KS.out; omega) P17.out.low.size ?_
              intro v18 w18 hr hg ha
              have P18 := Lib.hid (P17.out.app hr hg ha)
              clear hr hg ha P17
              refine hK _ _ ?_
              clear hK K
              refine wpAny_ready (rs := [6]) (by kernel_rfl) (by simp) ?_
              refine (AllReady.cons rfl (fun K hK => ?_) AllReady.nil)
              refine step_build0 rfl rfl ?_
              have P19 := Lib.hid (P18.out.alloc (.cells #[.int .u8 0] 5))
              have X19 := Lib.hid (Box0.new P18.out)
              clear P18
              obtain ⟨wb19, hwb⟩ : ∃ x, x = World.alloc w18 (.cells #[.int .u8 0] 5) := ⟨_, rfl⟩
              rw [← hwb] at P19 X19 ⊢
              clear hwb
              generalize Array.size (World.heap w18) = b19 at X19 ⊢
              refine hK _ _ ?_
              clear hK K
              refine wpAny_ready (rs := [7]) (by kernel_rfl) (by simp) ?_
              refine (AllReady.cons rfl (fun K hK => ?_) AllReady.nil)
              refine step_append_Q rfl (.tmp 24) (.tmp 25) 53 rfl W.heap.size 5 (.int .u8 0) 1 1 Tryz.underlying53 Tryz.infoB rfl (by decide) v18 ((m + (⟨#[102, 32]⟩ : ByteArray).size) + sn.size) (Bs ((bs ++ (⟨#[102, 32]⟩ : ByteArray).data.toList) ++ sn.data.toList)) rfl P19.out.row (some ⟨b19, 0, none⟩) 1 1 (Bs [0]) rfl X19.out.src (by have := M0.out; have := SZ.out; have := KS.out; omega) (by have := M0.out; have := SZ.out; have := KS.out; omega) P19.out.low.size ?_
              intro v20 w20 hr hg ha
              have P20 := Lib.hid (P19.out.app hr hg ha)
              clear hr hg ha P19 X19
              refine hK _ _ ?_
              clear hK K
              refine wpAny_ready (rs := [8]) (by kernel_rfl) (by simp) ?_
              refine (AllReady.cons rfl (fun K hK => ?_) AllReady.nil)
              go_simp
              refine hK _ _ ?_
              clear hK K
              refine wpAny_done (by kernel_rfl) ?_ _
              go_wp2_with (at_builtin; refine wpl_append rfl (.tmp 27) (.tmp 29) 53 rfl W.heap.size 5 (.int .u8 0) 1 1 Tryz.underlying53 Tryz.infoB rfl (by decide) v20 (((m + (⟨#[102, 32]⟩ : ByteArray).size) + sn.size) + 1) (Bs (((bs ++ (⟨#[102, 32]⟩ : ByteArray).data.toList) ++ sn.data.toList) ++ [0])) rfl P20.out.row (some ⟨g, 2, none⟩) 32 32 (Bs e.id.1) rfl (blk_id P20.out.blk) (by have := M0.out; have := SZ.out; have := KS.out; omega) (by have := M0.out; have := SZ.out; have := KS.out; omega) P20.out.low.size ?_; intro v9 w9 hr hg ha; have P9 := Lib.hid (P20.out.app hr hg ha); clear hr hg ha)
              go_roundw
              case measure => simp [intOf]; have := HLT.out; omega
              case rel =>
                refine ⟨k + 1, HLT.out, by go_num, (((m + (⟨#[102, 32]⟩ : ByteArray).size) + sn.size) + 1) + 32, ?_, ?_, P9.out.low⟩
                · have := MK.out; have := SZ.out; have := KS.out; omega
                · have h9 := P9.out.row
                  rw [NX.out]
                  unfold entB
                  rw [← TR.out]
                  simpa [SN.out] using h9
            ·
              refine step_build0 rfl rfl ?_
              have P22 := Lib.hid (P17.out.alloc (.cells #[.int .u8 0] 5))
              have X22 := Lib.hid (Box0.new P17.out)
              clear P17
              obtain ⟨wb22, hwb⟩ : ∃ x, x = World.alloc w17 (.cells #[.int .u8 0] 5) := ⟨_, rfl⟩
              rw [← hwb] at P22 X22 ⊢
              clear hwb
              generalize Array.size (World.heap w17) = b22 at X22 ⊢
              refine hK _ _ ?_
              clear hK K
              refine wpAny_ready (rs := [5]) (by kernel_rfl) (by simp) ?_
              refine (AllReady.cons rfl (fun K hK => ?_) AllReady.nil)
              refine step_append_S rfl (.tmp 21) (.tmp 23) rfl W.heap.size v17 (m + (⟨#[102, 32]⟩ : ByteArray).size) (Bs (bs ++ (⟨#[102, 32]⟩ : ByteArray).data.toList)) rfl P22.out.row sn rfl (by have := M0.out; have := SZ.out; have := KS.out; omega) P22.out.low.size ?_
              intro v23 w23 hr hg ha
              have P23 := Lib.hid (P22.out.app hr hg ha)
              have X23 := Lib.hid (X22.out.app hg ha)
              clear hr hg ha P22 X22
              refine hK _ _ ?_
              clear hK K
              refine wpAny_ready (rs := [7]) (by kernel_rfl) (by simp) ?_
              refine (AllReady.cons rfl (fun K hK => ?_) AllReady.nil)
              refine step_append_Q rfl (.tmp 24) (.tmp 25) 53 rfl W.heap.size 5 (.int .u8 0) 1 1 Tryz.underlying53 Tryz.infoB rfl (by decide) v23 ((m + (⟨#[102, 32]⟩ : ByteArray).size) + sn.size) (Bs ((bs ++ (⟨#[102, 32]⟩ : ByteArray).data.toList) ++ sn.data.toList)) rfl P23.out.row (some ⟨b22, 0, none⟩) 1 1 (Bs [0]) rfl X23.out.src (by have := M0.out; have := SZ.out; have := KS.out; omega) (by have := M0.out; have := SZ.out; have := KS.out; omega) P23.out.low.size ?_
              intro v24 w24 hr hg ha
              have P24 := Lib.hid (P23.out.app hr hg ha)
              clear hr hg ha P23 X23
              refine hK _ _ ?_
              clear hK K
              refine wpAny_ready (rs := [8]) (by kernel_rfl) (by simp) ?_
              refine (AllReady.cons rfl (fun K hK => ?_) AllReady.nil)
              go_simp
              refine hK _ _ ?_
              clear hK K
              refine wpAny_done (by kernel_rfl) ?_ _
              go_wp2_with (at_builtin; refine wpl_append rfl (.tmp 27) (.tmp 29) 53 rfl W.heap.size 5 (.int .u8 0) 1 1 Tryz.underlying53 Tryz.infoB rfl (by decide) v24 (((m + (⟨#[102, 32]⟩ : ByteArray).size) + sn.size) + 1) (Bs (((bs ++ (⟨#[102, 32]⟩ : ByteArray).data.toList) ++ sn.data.toList) ++ [0])) rfl P24.out.row (some ⟨g, 2, none⟩) 32 32 (Bs e.id.1) rfl (blk_id P24.out.blk) (by have := M0.out; have := SZ.out; have := KS.out; omega) (by have := M0.out; have := SZ.out; have := KS.out; omega) P24.out.low.size ?_; intro v9 w9 hr hg ha; have P9 := Lib.hid (P24.out.app hr hg ha); clear hr hg ha)
              go_roundw
              case measure => simp [intOf]; have := HLT.out; omega
              case rel =>
                refine ⟨k + 1, HLT.out, by go_num, (((m + (⟨#[102, 32]⟩ : ByteArray).size) + sn.size) + 1) + 32, ?_, ?_, P9.out.low⟩
                · have := MK.out; have := SZ.out; have := KS.out; omega
                · have h9 := P9.out.row
                  rw [NX.out]
                  unfold entB
                  rw [← TR.out]
                  simpa [SN.out] using h9
          ·
            refine step_build0 rfl rfl ?_
            have P26 := Lib.hid (PD.out.alloc (.cells #[.int .u8 0] 5))
            have X26 := Lib.hid (Box0.new PD.out)
            clear PD
            obtain ⟨wb26, hwb⟩ : ∃ x, x = World.alloc v0 (.cells #[.int .u8 0] 5) := ⟨_, rfl⟩
            rw [← hwb] at P26 X26 ⊢
            clear hwb
            generalize Array.size (World.heap v0) = b26 at X26 ⊢
            refine hK _ _ ?_
            clear hK K
            refine wpAny_ready (rs := [2]) (by kernel_rfl) (by simp) ?_
            refine (AllReady.cons rfl (fun K hK => ?_) AllReady.nil)
            refine step_append_S rfl (.tmp 19) (.tmp 20) rfl W.heap.size v m (Bs bs) rfl P26.out.row (⟨#[102, 32]⟩ : ByteArray) rfl (by have := M0.out; have := SZ.out; have := KS.out; omega) P26.out.low.size ?_
            intro v27 w27 hr hg ha
            have P27 := Lib.hid (P26.out.app hr hg ha)
            have X27 := Lib.hid (X26.out.app hg ha)
            clear hr hg ha P26 X26
            refine hK _ _ ?_
            clear hK K
            refine wpAny_ready (rs := [5]) (by kernel_rfl) (by simp) ?_
            refine (AllReady.cons rfl (fun K hK => ?_) AllReady.nil)
            refine step_append_S rfl (.tmp 21) (.tmp 23) rfl W.heap.size v27 (m + (⟨#[102, 32]⟩ : ByteArray).size) (Bs (bs ++ (⟨#[102, 32]⟩ : ByteArray).data.toList)) rfl P27.out.row sn rfl (by have := M0.out; have := SZ.out; have := KS.out; omega) P27.out.low.size ?_
            intro v28 w28 hr hg ha
            have P28 := Lib.hid (P27.out.app hr hg ha)
            have X28 := Lib.hid (X27.out.app hg ha)
            clear hr hg ha P27 X27
            refine hK _ _ ?_
            clear hK K
            refine wpAny_ready (rs := [7]) (by kernel_rfl) (by simp) ?_
            refine (AllReady.cons rfl (fun K hK => ?_) AllReady.nil)
            refine step_append_Q rfl (.tmp 24) (.tmp 25) 53 rfl W.heap.size 5 (.int .u8 0) 1 1 Tryz.underlying53 Tryz.infoB rfl (by decide) v28 ((m + (⟨#[102, 32]⟩ : ByteArray).size) + sn.size) (Bs ((bs ++ (⟨#[102, 32]⟩ : ByteArray).data.toList) ++ sn.data.toList)) rfl P28.out.row (some ⟨b26, 0, none⟩) 1 1 (Bs [0]) rfl X28.out.src (by have := M0.out; have := SZ.out; have := KS.out; omega) (by have := M0.out; have := SZ.out; have := KS.out; omega) P28.out.low.size ?_
            intro v29 w29 hr hg ha
            have P29 := Lib.hid (P28.out.app hr hg ha)
            clear hr hg ha P28 X28
            refine hK _ _ ?_
            clear hK K
            refine wpAny_ready (rs := [8]) (by kernel_rfl) (by simp) ?_
            refine (AllReady.cons rfl (fun K hK => ?_) AllReady.nil)
            go_simp
            refine hK _ _ ?_
            clear hK K
            refine wpAny_done (by kernel_rfl) ?_ _
            go_wp2_with (at_builtin; refine wpl_append rfl (.tmp 27) (.tmp 29) 53 rfl W.heap.size 5 (.int .u8 0) 1 1 Tryz.underlying53 Tryz.infoB rfl (by decide) v29 (((m + (⟨#[102, 32]⟩ : ByteArray).size) + sn.size) + 1) (Bs (((bs ++ (⟨#[102, 32]⟩ : ByteArray).data.toList) ++ sn.data.toList) ++ [0])) rfl P29.out.row (some ⟨g, 2, none⟩) 32 32 (Bs e.id.1) rfl (blk_id P29.out.blk) (by have := M0.out; have := SZ.out; have := KS.out; omega) (by have := M0.out; have := SZ.out; have := KS.out; omega) P29.out.low.size ?_; intro v9 w9 hr hg ha; have P9 := Lib.hid (P29.out.app hr hg ha); clear hr hg ha)
            go_roundw
            case measure => simp [intOf]; have := HLT.out; omega
            case rel =>
              refine ⟨k + 1, HLT.out, by go_num, (((m + (⟨#[102, 32]⟩ : ByteArray).size) + sn.size) + 1) + 32, ?_, ?_, P9.out.low⟩
              · have := MK.out; have := SZ.out; have := KS.out; omega
              · have h9 := P9.out.row
                rw [NX.out]
                unfold entB
                rw [← TR.out]
                simpa [SN.out] using h9
        ·
          refine step_build0 rfl rfl ?_
          have P31 := Lib.hid (PD.out.alloc (.cells #[.int .u8 0] 5))
          have X31 := Lib.hid (Box0.new PD.out)
          clear PD
          obtain ⟨wb31, hwb⟩ : ∃ x, x = World.alloc v0 (.cells #[.int .u8 0] 5) := ⟨_, rfl⟩
          rw [← hwb] at P31 X31 ⊢
          clear hwb
          generalize Array.size (World.heap v0) = b31 at X31 ⊢
          refine hK _ _ ?_
          clear hK K
          refine wpAny_ready (rs := [2, 4]) (by kernel_rfl) (by simp) ?_
          refine (AllReady.cons rfl (fun K hK => ?_) (AllReady.cons rfl (fun K hK => ?_) AllReady.nil))
          ·
            refine step_append_S rfl (.tmp 19) (.tmp 20) rfl W.heap.size v m (Bs bs) rfl P31.out.row (⟨#[102, 32]⟩ : ByteArray) rfl (by have := M0.out; have := SZ.out; have := KS.out; omega) P31.out.low.size ?_
            intro v32 w32 hr hg ha
            have P32 := Lib.hid (P31.out.app hr hg ha)
            have X32 := Lib.hid (X31.out.app hg ha)
            clear hr hg ha P31 X31
            refine hK _ _ ?_
            clear hK K
            refine wpAny_ready (rs := [4]) (by kernel_rfl) (by simp) ?_
            refine (AllReady.cons rfl (fun K hK => ?_) AllReady.nil)
            refine step_cell rfl 9 (.tmp 22) rfl ⟨g, 0, none⟩ rfl (.string sn) (Tryz.isAgg9 _) (CN.out _ P32.out.blk) ?_
            refine hK _ _ ?_
            clear hK K
            refine wpAny_ready (rs := [5]) (by kernel_rfl) (by simp) ?_
            refine (AllReady.cons rfl (fun K hK => ?_) AllReady.nil)
            refine step_append_S rfl (.tmp 21) (.tmp 23) rfl W.heap.size v32 (m + (⟨#[102, 32]⟩ : ByteArray).size) (Bs (bs ++ (⟨#[102, 32]⟩ : ByteArray).data.toList)) rfl P32.out.row sn rfl (by have := M0.out; have := SZ.out; have := KS.out; omega) P32.out.low.size ?_
            intro v34 w34 hr hg ha
            have P34 := Lib.hid (P32.out.app hr hg ha)
            have X34 := Lib.hid (X32.out.app hg ha)
            clear hr hg ha P32 X32
            refine hK _ _ ?_
            clear hK K
            refine wpAny_ready (rs := [7]) (by kernel_rfl) (by simp) ?_
            refine (AllReady.cons rfl (fun K hK => ?_) AllReady.nil)
            refine step_append_Q rfl (.tmp 24) (.tmp 25) 53 rfl W.heap.size 5 (.int .u8 0) 1 1 Tryz.underlying53 Tryz.infoB rfl (by decide) v34 ((m + (⟨#[102, 32]⟩ : ByteArray).size) + sn.size) (Bs ((bs ++ (⟨#[102, 32]⟩ : ByteArray).data.toList) ++ sn.data.toList)) rfl P34.out.row (some ⟨b31, 0, none⟩) 1 1 (Bs [0]) rfl X34.out.src (by have := M0.out; have := SZ.out; have := KS.out; omega) (by have := M0.out; have := SZ.out; have := KS.out; omega) P34.out.low.size ?_
            intro v35 w35 hr hg ha
            have P35 := Lib.hid (P34.out.app hr hg ha)
            clear hr hg ha P34 X34
            refine hK _ _ ?_
            clear hK K
            refine wpAny_ready (rs := [8]) (by kernel_rfl) (by simp) ?_
            refine (AllReady.cons rfl (fun K hK => ?_) AllReady.nil)
            go_simp
            refine hK _ _ ?_
            clear hK K
            refine wpAny_done (by kernel_rfl) ?_ _
            go_wp2_with (at_builtin; refine wpl_append rfl (.tmp 27) (.tmp 29) 53 rfl W.heap.size 5 (.int .u8 0) 1 1 Tryz.underlying53 Tryz.infoB rfl (by decide) v35 (((m + (⟨#[102, 32]⟩ : ByteArray).size) + sn.size) + 1) (Bs (((bs ++ (⟨#[102, 32]⟩ : ByteArray).data.toList) ++ sn.data.toList) ++ [0])) rfl P35.out.row (some ⟨g, 2, none⟩) 32 32 (Bs e.id.1) rfl (blk_id P35.out.blk) (by have := M0.out; have := SZ.out; have := KS.out; omega) (by have := M0.out; have := SZ.out; have := KS.out; omega) P35.out.low.size ?_; intro v9 w9 hr hg ha; have P9 := Lib.hid (P35.out.app hr hg ha); clear hr hg ha)
            go_roundw
            case measure => simp [intOf]; have := HLT.out; omega
            case rel =>
              refine ⟨k + 1, HLT.out, by go_num, (((m + (⟨#[102, 32]⟩ : ByteArray).size) + sn.size) + 1) + 32, ?_, ?_, P9.out.low⟩
              · have := MK.out; have := SZ.out; have := KS.out; omega
              · have h9 := P9.out.row
                rw [NX.out]
                unfold entB
                rw [← TR.out]
                simpa [SN.out] using h9
          ·
            refine step_cell rfl 9 (.tmp 22) rfl ⟨g, 0, none⟩ rfl (.string sn) (Tryz.isAgg9 _) (CN.out _ P31.out.blk) ?_
            refine hK _ _ ?_
            clear hK K
            refine wpAny_ready (rs := [2]) (by kernel_rfl) (by simp) ?_
            refine (AllReady.cons rfl (fun K hK => ?_) AllReady.nil)
            refine step_append_S rfl (.tmp 19) (.tmp 20) rfl W.heap.size v m (Bs bs) rfl P31.out.row (⟨#[102, 32]⟩ : ByteArray) rfl (by have := M0.out; have := SZ.out; have := KS.out; omega) P31.out.low.size ?_
            intro v38 w38 hr hg ha
            have P38 := Lib.hid (P31.out.app hr hg ha)
            have X38 := Lib.hid (X31.out.app hg ha)
            clear hr hg ha P31 X31
            refine hK _ _ ?_
            clear hK K
            refine wpAny_ready (rs := [5]) (by kernel_rfl) (by simp) ?_
            refine (AllReady.cons rfl (fun K hK => ?_) AllReady.nil)
            refine step_append_S rfl (.tmp 21) (.tmp 23) rfl W.heap.size v38 (m + (⟨#[102, 32]⟩ : ByteArray).size) (Bs (bs ++ (⟨#[102, 32]⟩ : ByteArray).data.toList)) rfl P38.out.row sn rfl (by have := M0.out; have := SZ.out; have := KS.out; omega) P38.out.low.size ?_
            intro v39 w39 hr hg ha
            have P39 := Lib.hid (P38.out.app hr hg ha)
            have X39 := Lib.hid (X38.out.app hg ha)
            clear hr hg ha P38 X38
            refine hK _ _ ?_
            clear hK K
            refine wpAny_ready (rs := [7]) (by kernel_rfl) (by simp) ?_
            refine (AllReady.cons rfl (fun K hK => ?_) AllReady.nil)
            refine step_append_Q rfl (.tmp 24) (.tmp 25) 53 rfl W.heap.size 5 (.int .u8 0) 1 1 Tryz.underlying53 Tryz.infoB rfl (by decide) v39 ((m + (⟨#[102, 32]⟩ : ByteArray).size) + sn.size) (Bs ((bs ++ (⟨#[102, 32]⟩ : ByteArray).data.toList) ++ sn.data.toList)) rfl P39.out.row (some ⟨b31, 0, none⟩) 1 1 (Bs [0]) rfl X39.out.src (by have := M0.out; have := SZ.out; have := KS.out; omega) (by have := M0.out; have := SZ.out; have := KS.out; omega) P39.out.low.size ?_
            intro v40 w40 hr hg ha
            have P40 := Lib.hid (P39.out.app hr hg ha)
            clear hr hg ha P39 X39
            refine hK _ _ ?_
            clear hK K
            refine wpAny_ready (rs := [8]) (by kernel_rfl) (by simp) ?_
            refine (AllReady.cons rfl (fun K hK => ?_) AllReady.nil)
            go_simp
            refine hK _ _ ?_
            clear hK K
            refine wpAny_done (by kernel_rfl) ?_ _
            go_wp2_with (at_builtin; refine wpl_append rfl (.tmp 27) (.tmp 29) 53 rfl W.heap.size 5 (.int .u8 0) 1 1 Tryz.underlying53 Tryz.infoB rfl (by decide) v40 (((m + (⟨#[102, 32]⟩ : ByteArray).size) + sn.size) + 1) (Bs (((bs ++ (⟨#[102, 32]⟩ : ByteArray).data.toList) ++ sn.data.toList) ++ [0])) rfl P40.out.row (some ⟨g, 2, none⟩) 32 32 (Bs e.id.1) rfl (blk_id P40.out.blk) (by have := M0.out; have := SZ.out; have := KS.out; omega) (by have := M0.out; have := SZ.out; have := KS.out; omega) P40.out.low.size ?_; intro v9 w9 hr hg ha; have P9 := Lib.hid (P40.out.app hr hg ha); clear hr hg ha)
            go_roundw
            case measure => simp [intOf]; have := HLT.out; omega
            case rel =>
              refine ⟨k + 1, HLT.out, by go_num, (((m + (⟨#[102, 32]⟩ : ByteArray).size) + sn.size) + 1) + 32, ?_, ?_, P9.out.low⟩
              · have := MK.out; have := SZ.out; have := KS.out; omega
              · have h9 := P9.out.row
                rw [NX.out]
                unfold entB
                rw [← TR.out]
                simpa [SN.out] using h9
      ·
        go_upto_region 10 with fail
        refine wp_region_any (by kernel_rfl) ?_
        change wpAny _ _ _ _ _ _ _ (World.drew _)
        have PD : Hid (PutSt W w2.drew v m bs 99 g (encE e)) := Lib.hid ⟨PS.out.row.drewN 1, PS.out.blk.drew, PS.out.ne, PS.out.low.drew⟩
        generalize World.drew w2 = v0 at PD ⊢
        clear PS ct
        refine wpAny_bare [0, 1, 3] 6 (by rfl) (by kernel_rfl) (fun _ _ _ d _ h => by cases d <;> exact h) ?_
        simp only [bareO, List.filterMap_cons, List.filterMap_nil, List.getElem?_toArray, List.getElem?_cons_succ, List.getElem?_cons_zero]
        repeat (first | quiet_step (fail) | go_big_quiet_step (fail))
        refine wpQuiet_nil ?_
        refine wpAny_ready (rs := [2, 4, 6]) (by kernel_rfl) (by simp) ?_
        refine (AllReady.cons rfl (fun K hK => ?_) (AllReady.cons rfl (fun K hK => ?_) (AllReady.cons rfl (fun K hK => ?_) AllReady.nil)))
        ·
          refine step_append_S rfl (.tmp 19) (.tmp 20) rfl W.heap.size v m (Bs bs) rfl PD.out.row (⟨#[100, 32]⟩ : ByteArray) rfl (by have := M0.out; have := SZ.out; have := KS.out; omega) PD.out.low.size ?_
          intro v42 w42 hr hg ha
          have P42 := Lib.hid (PD.out.app hr hg ha)
          clear hr hg ha PD
          refine hK _ _ ?_
          clear hK K
          refine wpAny_ready (rs := [4, 6]) (by kernel_rfl) (by simp) ?_
          refine (AllReady.cons rfl (fun K hK => ?_) (AllReady.cons rfl (fun K hK => ?_) AllReady.nil))
          ·
            refine step_cell rfl 9 (.tmp 22) rfl ⟨g, 0, none⟩ rfl (.string sn) (Tryz.isAgg9 _) (CN.out _ P42.out.blk) ?_
            refine hK _ _ ?_
            clear hK K
            refine wpAny_ready (rs := [5, 6]) (by kernel_rfl) (by simp) ?_
            refine (AllReady.cons rfl (fun K hK => ?_) (AllReady.cons rfl (fun K hK => ?_) AllReady.nil))
            ·
              refine step_append_S rfl (.tmp 21) (.tmp 23) rfl W.heap.size v42 (m + (⟨#[100, 32]⟩ : ByteArray).size) (Bs (bs ++ (⟨#[100, 32]⟩ : ByteArray).data.toList)) rfl P42.out.row sn rfl (by have := M0.out; have := SZ.out; have := KS.out; omega) P42.out.low.size ?_
              intro v44 w44 hr hg ha
              have P44 := Lib.hid (P42.out.app hr hg ha)
              clear hr hg ha P42
              refine hK _ _ ?_
              clear hK K
              refine wpAny_ready (rs := [6]) (by kernel_rfl) (by simp) ?_
              refine (AllReady.cons rfl (fun K hK => ?_) AllReady.nil)
              refine step_build0 rfl rfl ?_
              have P45 := Lib.hid (P44.out.alloc (.cells #[.int .u8 0] 5))
              have X45 := Lib.hid (Box0.new P44.out)
              clear P44
              obtain ⟨wb45, hwb⟩ : ∃ x, x = World.alloc w44 (.cells #[.int .u8 0] 5) := ⟨_, rfl⟩
              rw [← hwb] at P45 X45 ⊢
              clear hwb
              generalize Array.size (World.heap w44) = b45 at X45 ⊢
              refine hK _ _ ?_
              clear hK K
              refine wpAny_ready (rs := [7]) (by kernel_rfl) (by simp) ?_
              refine (AllReady.cons rfl (fun K hK => ?_) AllReady.nil)
              refine step_append_Q rfl (.tmp 24) (.tmp 25) 53 rfl W.heap.size 5 (.int .u8 0) 1 1 Tryz.underlying53 Tryz.infoB rfl (by decide) v44 ((m + (⟨#[100, 32]⟩ : ByteArray).size) + sn.size) (Bs ((bs ++ (⟨#[100, 32]⟩ : ByteArray).data.toList) ++ sn.data.toList)) rfl P45.out.row (some ⟨b45, 0, none⟩) 1 1 (Bs [0]) rfl X45.out.src (by have := M0.out; have := SZ.out; have := KS.out; omega) (by have := M0.out; have := SZ.out; have := KS.out; omega) P45.out.low.size ?_
              intro v46 w46 hr hg ha
              have P46 := Lib.hid (P45.out.app hr hg ha)
              clear hr hg ha P45 X45
              refine hK _ _ ?_
              clear hK K
              refine wpAny_ready (rs := [8]) (by kernel_rfl) (by simp) ?_
              refine (AllReady.cons rfl (fun K hK => ?_) AllReady.nil)
              go_simp
              refine hK _ _ ?_
              clear hK K
              refine wpAny_done (by kernel_rfl) ?_ _
              go_wp2_with (at_builtin; refine wpl_append rfl (.tmp 27) (.tmp 29) 53 rfl W.heap.size 5 (.int .u8 0) 1 1 Tryz.underlying53 Tryz.infoB rfl (by decide) v46 (((m + (⟨#[100, 32]⟩ : ByteArray).size) + sn.size) + 1) (Bs (((bs ++ (⟨#[100, 32]⟩ : ByteArray).data.toList) ++ sn.data.toList) ++ [0])) rfl P46.out.row (some ⟨g, 2, none⟩) 32 32 (Bs e.id.1) rfl (blk_id P46.out.blk) (by have := M0.out; have := SZ.out; have := KS.out; omega) (by have := M0.out; have := SZ.out; have := KS.out; omega) P46.out.low.size ?_; intro v9 w9 hr hg ha; have P9 := Lib.hid (P46.out.app hr hg ha); clear hr hg ha)
              go_roundw
              case measure => simp [intOf]; have := HLT.out; omega
              case rel =>
                refine ⟨k + 1, HLT.out, by go_num, (((m + (⟨#[100, 32]⟩ : ByteArray).size) + sn.size) + 1) + 32, ?_, ?_, P9.out.low⟩
                · have := MK.out; have := SZ.out; have := KS.out; omega
                · have h9 := P9.out.row
                  rw [NX.out]
                  unfold entB
                  rw [← TR.out]
                  simpa [SN.out] using h9
            ·
              refine step_build0 rfl rfl ?_
              have P48 := Lib.hid (P42.out.alloc (.cells #[.int .u8 0] 5))
              have X48 := Lib.hid (Box0.new P42.out)
              clear P42
              obtain ⟨wb48, hwb⟩ : ∃ x, x = World.alloc w42 (.cells #[.int .u8 0] 5) := ⟨_, rfl⟩
              rw [← hwb] at P48 X48 ⊢
              clear hwb
              generalize Array.size (World.heap w42) = b48 at X48 ⊢
              refine hK _ _ ?_
              clear hK K
              refine wpAny_ready (rs := [5]) (by kernel_rfl) (by simp) ?_
              refine (AllReady.cons rfl (fun K hK => ?_) AllReady.nil)
              refine step_append_S rfl (.tmp 21) (.tmp 23) rfl W.heap.size v42 (m + (⟨#[100, 32]⟩ : ByteArray).size) (Bs (bs ++ (⟨#[100, 32]⟩ : ByteArray).data.toList)) rfl P48.out.row sn rfl (by have := M0.out; have := SZ.out; have := KS.out; omega) P48.out.low.size ?_
              intro v49 w49 hr hg ha
              have P49 := Lib.hid (P48.out.app hr hg ha)
              have X49 := Lib.hid (X48.out.app hg ha)
              clear hr hg ha P48 X48
              refine hK _ _ ?_
              clear hK K
              refine wpAny_ready (rs := [7]) (by kernel_rfl) (by simp) ?_
              refine (AllReady.cons rfl (fun K hK => ?_) AllReady.nil)
              refine step_append_Q rfl (.tmp 24) (.tmp 25) 53 rfl W.heap.size 5 (.int .u8 0) 1 1 Tryz.underlying53 Tryz.infoB rfl (by decide) v49 ((m + (⟨#[100, 32]⟩ : ByteArray).size) + sn.size) (Bs ((bs ++ (⟨#[100, 32]⟩ : ByteArray).data.toList) ++ sn.data.toList)) rfl P49.out.row (some ⟨b48, 0, none⟩) 1 1 (Bs [0]) rfl X49.out.src (by have := M0.out; have := SZ.out; have := KS.out; omega) (by have := M0.out; have := SZ.out; have := KS.out; omega) P49.out.low.size ?_
              intro v50 w50 hr hg ha
              have P50 := Lib.hid (P49.out.app hr hg ha)
              clear hr hg ha P49 X49
              refine hK _ _ ?_
              clear hK K
              refine wpAny_ready (rs := [8]) (by kernel_rfl) (by simp) ?_
              refine (AllReady.cons rfl (fun K hK => ?_) AllReady.nil)
              go_simp
              refine hK _ _ ?_
              clear hK K
              refine wpAny_done (by kernel_rfl) ?_ _
              go_wp2_with (at_builtin; refine wpl_append rfl (.tmp 27) (.tmp 29) 53 rfl W.heap.size 5 (.int .u8 0) 1 1 Tryz.underlying53 Tryz.infoB rfl (by decide) v50 (((m + (⟨#[100, 32]⟩ : ByteArray).size) + sn.size) + 1) (Bs (((bs ++ (⟨#[100, 32]⟩ : ByteArray).data.toList) ++ sn.data.toList) ++ [0])) rfl P50.out.row (some ⟨g, 2, none⟩) 32 32 (Bs e.id.1) rfl (blk_id P50.out.blk) (by have := M0.out; have := SZ.out; have := KS.out; omega) (by have := M0.out; have := SZ.out; have := KS.out; omega) P50.out.low.size ?_; intro v9 w9 hr hg ha; have P9 := Lib.hid (P50.out.app hr hg ha); clear hr hg ha)
              go_roundw
              case measure => simp [intOf]; have := HLT.out; omega
              case rel =>
                refine ⟨k + 1, HLT.out, by go_num, (((m + (⟨#[100, 32]⟩ : ByteArray).size) + sn.size) + 1) + 32, ?_, ?_, P9.out.low⟩
                · have := MK.out; have := SZ.out; have := KS.out; omega
                · have h9 := P9.out.row
                  rw [NX.out]
                  unfold entB
                  rw [← TR.out]
                  simpa [SN.out] using h9
          ·
            refine step_build0 rfl rfl ?_
            have P52 := Lib.hid (P42.out.alloc (.cells #[.int .u8 0] 5))
            have X52 := Lib.hid (Box0.new P42.out)
            clear P42
            obtain ⟨wb52, hwb⟩ : ∃ x, x = World.alloc w42 (.cells #[.int .u8 0] 5) := ⟨_, rfl⟩
            rw [← hwb] at P52 X52 ⊢
            clear hwb
            generalize Array.size (World.heap w42) = b52 at X52 ⊢
            refine hK _ _ ?_
            clear hK K
            refine wpAny_ready (rs := [4]) (by kernel_rfl) (by simp) ?_
            refine (AllReady.cons rfl (fun K hK => ?_) AllReady.nil)
            refine step_cell rfl 9 (.tmp 22) rfl ⟨g, 0, none⟩ rfl (.string sn) (Tryz.isAgg9 _) (CN.out _ P52.out.blk) ?_
            refine hK _ _ ?_
            clear hK K
            refine wpAny_ready (rs := [5]) (by kernel_rfl) (by simp) ?_
            refine (AllReady.cons rfl (fun K hK => ?_) AllReady.nil)
            refine step_append_S rfl (.tmp 21) (.tmp 23) rfl W.heap.size v42 (m + (⟨#[100, 32]⟩ : ByteArray).size) (Bs (bs ++ (⟨#[100, 32]⟩ : ByteArray).data.toList)) rfl P52.out.row sn rfl (by have := M0.out; have := SZ.out; have := KS.out; omega) P52.out.low.size ?_
            intro v54 w54 hr hg ha
            have P54 := Lib.hid (P52.out.app hr hg ha)
            have X54 := Lib.hid (X52.out.app hg ha)
            clear hr hg ha P52 X52
            refine hK _ _ ?_
            clear hK K
            refine wpAny_ready (rs := [7]) (by kernel_rfl) (by simp) ?_
            refine (AllReady.cons rfl (fun K hK => ?_) AllReady.nil)
            refine step_append_Q rfl (.tmp 24) (.tmp 25) 53 rfl W.heap.size 5 (.int .u8 0) 1 1 Tryz.underlying53 Tryz.infoB rfl (by decide) v54 ((m + (⟨#[100, 32]⟩ : ByteArray).size) + sn.size) (Bs ((bs ++ (⟨#[100, 32]⟩ : ByteArray).data.toList) ++ sn.data.toList)) rfl P54.out.row (some ⟨b52, 0, none⟩) 1 1 (Bs [0]) rfl X54.out.src (by have := M0.out; have := SZ.out; have := KS.out; omega) (by have := M0.out; have := SZ.out; have := KS.out; omega) P54.out.low.size ?_
            intro v55 w55 hr hg ha
            have P55 := Lib.hid (P54.out.app hr hg ha)
            clear hr hg ha P54 X54
            refine hK _ _ ?_
            clear hK K
            refine wpAny_ready (rs := [8]) (by kernel_rfl) (by simp) ?_
            refine (AllReady.cons rfl (fun K hK => ?_) AllReady.nil)
            go_simp
            refine hK _ _ ?_
            clear hK K
            refine wpAny_done (by kernel_rfl) ?_ _
            go_wp2_with (at_builtin; refine wpl_append rfl (.tmp 27) (.tmp 29) 53 rfl W.heap.size 5 (.int .u8 0) 1 1 Tryz.underlying53 Tryz.infoB rfl (by decide) v55 (((m + (⟨#[100, 32]⟩ : ByteArray).size) + sn.size) + 1) (Bs (((bs ++ (⟨#[100, 32]⟩ : ByteArray).data.toList) ++ sn.data.toList) ++ [0])) rfl P55.out.row (some ⟨g, 2, none⟩) 32 32 (Bs e.id.1) rfl (blk_id P55.out.blk) (by have := M0.out; have := SZ.out; have := KS.out; omega) (by have := M0.out; have := SZ.out; have := KS.out; omega) P55.out.low.size ?_; intro v9 w9 hr hg ha; have P9 := Lib.hid (P55.out.app hr hg ha); clear hr hg ha)
            go_roundw
            case measure => simp [intOf]; have := HLT.out; omega
            case rel =>
              refine ⟨k + 1, HLT.out, by go_num, (((m + (⟨#[100, 32]⟩ : ByteArray).size) + sn.size) + 1) + 32, ?_, ?_, P9.out.low⟩
              · have := MK.out; have := SZ.out; have := KS.out; omega
              · have h9 := P9.out.row
                rw [NX.out]
                unfold entB
                rw [← TR.out]
                simpa [SN.out] using h9
        ·
          refine step_cell rfl 9 (.tmp 22) rfl ⟨g, 0, none⟩ rfl (.string sn) (Tryz.isAgg9 _) (CN.out _ PD.out.blk) ?_
          refine hK _ _ ?_
          clear hK K
          refine wpAny_ready (rs := [2, 6]) (by kernel_rfl) (by simp) ?_
          refine (AllReady.cons rfl (fun K hK => ?_) (AllReady.cons rfl (fun K hK => ?_) AllReady.nil))
          ·
            refine step_append_S rfl (.tmp 19) (.tmp 20) rfl W.heap.size v m (Bs bs) rfl PD.out.row (⟨#[100, 32]⟩ : ByteArray) rfl (by have := M0.out; have := SZ.out; have := KS.out; omega) PD.out.low.size ?_
            intro v58 w58 hr hg ha
            have P58 := Lib.hid (PD.out.app hr hg ha)
            clear hr hg ha PD
            refine hK _ _ ?_
            clear hK K
            refine wpAny_ready (rs := [5, 6]) (by kernel_rfl) (by simp) ?_
            refine (AllReady.cons rfl (fun K hK => ?_) (AllReady.cons rfl (fun K hK => ?_) AllReady.nil))
            ·
              refine step_append_S rfl (.tmp 21) (.tmp 23) rfl W.heap.size v58 (m + (⟨#[100, 32]⟩ : ByteArray).size) (Bs (bs ++ (⟨#[100, 32]⟩ : ByteArray).data.toList)) rfl P58.out.row sn rfl (by have := M0.out; have := SZ.out; have := KS.out; omega) P58.out.low.size ?_
              intro v59 w59 hr hg ha
              have P59 := Lib.hid (P58.out.app hr hg ha)
              clear hr hg ha P58
              refine hK _ _ ?_
              clear hK K
              refine wpAny_ready (rs := [6]) (by kernel_rfl) (by simp) ?_
              refine (AllReady.cons rfl (fun K hK => ?_) AllReady.nil)
              refine step_build0 rfl rfl ?_
              have P60 := Lib.hid (P59.out.alloc (.cells #[.int .u8 0] 5))
              have X60 := Lib.hid (Box0.new P59.out)
              clear P59
              obtain ⟨wb60, hwb⟩ : ∃ x, x = World.alloc w59 (.cells #[.int .u8 0] 5) := ⟨_, rfl⟩
              rw [← hwb] at P60 X60 ⊢
              clear hwb
              generalize Array.size (World.heap w59) = b60 at X60 ⊢
              refine hK _ _ ?_
              clear hK K
              refine wpAny_ready (rs := [7]) (by kernel_rfl) (by simp) ?_
              refine (AllReady.cons rfl (fun K hK => ?_) AllReady.nil)
              refine step_append_Q rfl (.tmp 24) (.tmp 25) 53 rfl W.heap.size 5 (.int .u8 0) 1 1 Tryz.underlying53 Tryz.infoB rfl (by decide) v59 ((m + (⟨#[100, 32]⟩ : ByteArray).size) + sn.size) (Bs ((bs ++ (⟨#[100, 32]⟩ : ByteArray).data.toList) ++ sn.data.toList)) rfl P60.out.row (some ⟨b60, 0, none⟩) 1 1 (Bs [0]) rfl X60.out.src (by have := M0.out; have := SZ.out; have := KS.out; omega) (by have := M0.out; have := SZ.out; have := KS.out; omega) P60.out.low.size ?_
              intro v61 w61 hr hg ha
              have P61 := Lib.hid (P60.out.app hr hg ha)
              clear hr hg ha P60 X60
              refine hK _ _ ?_
              clear hK K
              refine wpAny_ready (rs := [8]) (by kernel_rfl) (by simp) ?_
              refine (AllReady.cons rfl (fun K hK => ?_) AllReady.nil)
              go_simp
              refine hK _ _ ?_
              clear hK K
              refine wpAny_done (by kernel_rfl) ?_ _
              go_wp2_with (at_builtin; refine wpl_append rfl (.tmp 27) (.tmp 29) 53 rfl W.heap.size 5 (.int .u8 0) 1 1 Tryz.underlying53 Tryz.infoB rfl (by decide) v61 (((m + (⟨#[100, 32]⟩ : ByteArray).size) + sn.size) + 1) (Bs (((bs ++ (⟨#[100, 32]⟩ : ByteArray).data.toList) ++ sn.data.toList) ++ [0])) rfl P61.out.row (some ⟨g, 2, none⟩) 32 32 (Bs e.id.1) rfl (blk_id P61.out.blk) (by have := M0.out; have := SZ.out; have := KS.out; omega) (by have := M0.out; have := SZ.out; have := KS.out; omega) P61.out.low.size ?_; intro v9 w9 hr hg ha; have P9 := Lib.hid (P61.out.app hr hg ha); clear hr hg ha)
              go_roundw
              case measure => simp [intOf]; have := HLT.out; omega
              case rel =>
                refine ⟨k + 1, HLT.out, by go_num, (((m + (⟨#[100, 32]⟩ : ByteArray).size) + sn.size) + 1) + 32, ?_, ?_, P9.out.low⟩
                · have := MK.out; have := SZ.out; have := KS.out; omega
                · have h9 := P9.out.row
                  rw [NX.out]
                  unfold entB
                  rw [← TR.out]
                  simpa [SN.out] using h9
            ·
              refine step_build0 rfl rfl ?_
              have P63 := Lib.hid (P58.out.alloc (.cells #[.int .u8 0] 5))
              have X63 := Lib.hid (Box0.new P58.out)
              clear P58
              obtain ⟨wb63, hwb⟩ : ∃ x, x = World.alloc w58 (.cells #[.int .u8 0] 5) := ⟨_, rfl⟩
              rw [← hwb] at P63 X63 ⊢
              clear hwb
              generalize Array.size (World.heap w58) = b63 at X63 ⊢
              refine hK _ _ ?_
              clear hK K
              refine wpAny_ready (rs := [5]) (by kernel_rfl) (by simp) ?_
              refine (AllReady.cons rfl (fun K hK => ?_) AllReady.nil)
              refine step_append_S rfl (.tmp 21) (.tmp 23) rfl W.heap.size v58 (m + (⟨#[100, 32]⟩ : ByteArray).size) (Bs (bs ++ (⟨#[100, 32]⟩ : ByteArray).data.toList)) rfl P63.out.row sn rfl (by have := M0.out; have := SZ.out; have := KS.out; omega) P63.out.low.size ?_
              intro v64 w64 hr hg ha
              have P64 := Lib.hid (P63.out.app hr hg ha)
              have X64 := Lib.hid (X63.out.app hg ha)
              clear hr hg ha P63 X63
              refine hK _ _ ?_
              clear hK K
              refine wpAny_ready (rs := [7]) (by kernel_rfl) (by simp) ?_
              refine (AllReady.cons rfl (fun K hK => ?_) AllReady.nil)
              refine step_append_Q rfl (.tmp 24) (.tmp 25) 53 rfl W.heap.size 5 (.int .u8 0) 1 1 Tryz.underlying53 Tryz.infoB rfl (by decide) v64 ((m + (⟨#[100, 32]⟩ : ByteArray).size) + sn.size) (Bs ((bs ++ (⟨#[100, 32]⟩ : ByteArray).data.toList) ++ sn.data.toList)) rfl P64.out.row (some ⟨b63, 0, none⟩) 1 1 (Bs [0]) rfl X64.out.src (by have := M0.out; have := SZ.out; have := KS.out; omega) (by have := M0.out; have := SZ.out; have := KS.out; omega) P64.out.low.size ?_
              intro v65 w65 hr hg ha
              have P65 := Lib.hid (P64.out.app hr hg ha)
              clear hr hg ha P64 X64
              refine hK _ _ ?_
              clear hK K
              refine wpAny_ready (rs := [8]) (by kernel_rfl) (by simp) ?_
              refine (AllReady.cons rfl (fun K hK => ?_) AllReady.nil)
              go_simp
              refine hK _ _ ?_
              clear hK K
              refine wpAny_done (by kernel_rfl) ?_ _
              go_wp2_with (at_builtin; refine wpl_append rfl (.tmp 27) (.tmp 29) 53 rfl W.heap.size 5 (.int .u8 0) 1 1 Tryz.underlying53 Tryz.infoB rfl (by decide) v65 (((m + (⟨#[100, 32]⟩ : ByteArray).size) + sn.size) + 1) (Bs (((bs ++ (⟨#[100, 32]⟩ : ByteArray).data.toList) ++ sn.data.toList) ++ [0])) rfl P65.out.row (some ⟨g, 2, none⟩) 32 32 (Bs e.id.1) rfl (blk_id P65.out.blk) (by have := M0.out; have := SZ.out; have := KS.out; omega) (by have := M0.out; have := SZ.out; have := KS.out; omega) P65.out.low.size ?_; intro v9 w9 hr hg ha; have P9 := Lib.hid (P65.out.app hr hg ha); clear hr hg ha)
              go_roundw
              case measure => simp [intOf]; have := HLT.out; omega
              case rel =>
                refine ⟨k + 1, HLT.out, by go_num, (((m + (⟨#[100, 32]⟩ : ByteArray).size) + sn.size) + 1) + 32, ?_, ?_, P9.out.low⟩
                · have := MK.out; have := SZ.out; have := KS.out; omega
                · have h9 := P9.out.row
                  rw [NX.out]
                  unfold entB
                  rw [← TR.out]
                  simpa [SN.out] using h9
          ·
            refine step_build0 rfl rfl ?_
            have P67 := Lib.hid (PD.out.alloc (.cells #[.int .u8 0] 5))
            have X67 := Lib.hid (Box0.new PD.out)
            clear PD
            obtain ⟨wb67, hwb⟩ : ∃ x, x = World.alloc v0 (.cells #[.int .u8 0] 5) := ⟨_, rfl⟩
            rw [← hwb] at P67 X67 ⊢
            clear hwb
            generalize Array.size (World.heap v0) = b67 at X67 ⊢
            refine hK _ _ ?_
            clear hK K
            refine wpAny_ready (rs := [2]) (by kernel_rfl) (by simp) ?_
            refine (AllReady.cons rfl (fun K hK => ?_) AllReady.nil)
            refine step_append_S rfl (.tmp 19) (.tmp 20) rfl W.heap.size v m (Bs bs) rfl P67.out.row (⟨#[100, 32]⟩ : ByteArray) rfl (by have := M0.out; have := SZ.out; have := KS.out; omega) P67.out.low.size ?_
            intro v68 w68 hr hg ha
            have P68 := Lib.hid (P67.out.app hr hg ha)
            have X68 := Lib.hid (X67.out.app hg ha)
            clear hr hg ha P67 X67
            refine hK _ _ ?_
            clear hK K
            refine wpAny_ready (rs := [5]) (by kernel_rfl) (by simp) ?_
            refine (AllReady.cons rfl (fun K hK => ?_) AllReady.nil)
            refine step_append_S rfl (.tmp 21) (.tmp 23) rfl W.heap.size v68 (m + (⟨#[100, 32]⟩ : ByteArray).size) (Bs (bs ++ (⟨#[100, 32]⟩ : ByteArray).data.toList)) rfl P68.out.row sn rfl (by have := M0.out; have := SZ.out; have := KS.out; omega) P68.out.low.size ?_
            intro v69 w69 hr hg ha
            have P69 := Lib.hid (P68.out.app hr hg ha)
            have X69 := Lib.hid (X68.out.app hg ha)
            clear hr hg ha P68 X68
            refine hK _ _ ?_
            clear hK K
            refine wpAny_ready (rs := [7]) (by kernel_rfl) (by simp) ?_
            refine (AllReady.cons rfl (fun K hK => ?_) AllReady.nil)
            refine step_append_Q rfl (.tmp 24) (.tmp 25) 53 rfl W.heap.size 5 (.int .u8 0) 1 1 Tryz.underlying53 Tryz.infoB rfl (by decide) v69 ((m + (⟨#[100, 32]⟩ : ByteArray).size) + sn.size) (Bs ((bs ++ (⟨#[100, 32]⟩ : ByteArray).data.toList) ++ sn.data.toList)) rfl P69.out.row (some ⟨b67, 0, none⟩) 1 1 (Bs [0]) rfl X69.out.src (by have := M0.out; have := SZ.out; have := KS.out; omega) (by have := M0.out; have := SZ.out; have := KS.out; omega) P69.out.low.size ?_
            intro v70 w70 hr hg ha
            have P70 := Lib.hid (P69.out.app hr hg ha)
            clear hr hg ha P69 X69
            refine hK _ _ ?_
            clear hK K
            refine wpAny_ready (rs := [8]) (by kernel_rfl) (by simp) ?_
            refine (AllReady.cons rfl (fun K hK => ?_) AllReady.nil)
            go_simp
            refine hK _ _ ?_
            clear hK K
            refine wpAny_done (by kernel_rfl) ?_ _
            go_wp2_with (at_builtin; refine wpl_append rfl (.tmp 27) (.tmp 29) 53 rfl W.heap.size 5 (.int .u8 0) 1 1 Tryz.underlying53 Tryz.infoB rfl (by decide) v70 (((m + (⟨#[100, 32]⟩ : ByteArray).size) + sn.size) + 1) (Bs (((bs ++ (⟨#[100, 32]⟩ : ByteArray).data.toList) ++ sn.data.toList) ++ [0])) rfl P70.out.row (some ⟨g, 2, none⟩) 32 32 (Bs e.id.1) rfl (blk_id P70.out.blk) (by have := M0.out; have := SZ.out; have := KS.out; omega) (by have := M0.out; have := SZ.out; have := KS.out; omega) P70.out.low.size ?_; intro v9 w9 hr hg ha; have P9 := Lib.hid (P70.out.app hr hg ha); clear hr hg ha)
            go_roundw
            case measure => simp [intOf]; have := HLT.out; omega
            case rel =>
              refine ⟨k + 1, HLT.out, by go_num, (((m + (⟨#[100, 32]⟩ : ByteArray).size) + sn.size) + 1) + 32, ?_, ?_, P9.out.low⟩
              · have := MK.out; have := SZ.out; have := KS.out; omega
              · have h9 := P9.out.row
                rw [NX.out]
                unfold entB
                rw [← TR.out]
                simpa [SN.out] using h9
        ·
          refine step_build0 rfl rfl ?_
          have P72 := Lib.hid (PD.out.alloc (.cells #[.int .u8 0] 5))
          have X72 := Lib.hid (Box0.new PD.out)
          clear PD
          obtain ⟨wb72, hwb⟩ : ∃ x, x = World.alloc v0 (.cells #[.int .u8 0] 5) := ⟨_, rfl⟩
          rw [← hwb] at P72 X72 ⊢
          clear hwb
          generalize Array.size (World.heap v0) = b72 at X72 ⊢
          refine hK _ _ ?_
          clear hK K
          refine wpAny_ready (rs := [2, 4]) (by kernel_rfl) (by simp) ?_
          refine (AllReady.cons rfl (fun K hK => ?_) (AllReady.cons rfl (fun K hK => ?_) AllReady.nil))
          ·
            refine step_append_S rfl (.tmp 19) (.tmp 20) rfl W.heap.size v m (Bs bs) rfl P72.out.row (⟨#[100, 32]⟩ : ByteArray) rfl (by have := M0.out; have := SZ.out; have := KS.out; omega) P72.out.low.size ?_
            intro v73 w73 hr hg ha
            have P73 := Lib.hid (P72.out.app hr hg ha)
            have X73 := Lib.hid (X72.out.app hg ha)
            clear hr hg ha P72 X72
            refine hK _ _ ?_
            clear hK K
            refine wpAny_ready (rs := [4]) (by kernel_rfl) (by simp) ?_
            refine (AllReady.cons rfl (fun K hK => ?_) AllReady.nil)
            refine step_cell rfl 9 (.tmp 22) rfl ⟨g, 0, none⟩ rfl (.string sn) (Tryz.isAgg9 _) (CN.out _ P73.out.blk) ?_
            refine hK _ _ ?_
            clear hK K
            refine wpAny_ready (rs := [5]) (by kernel_rfl) (by simp) ?_
            refine (AllReady.cons rfl (fun K hK => ?_) AllReady.nil)
            refine step_append_S rfl (.tmp 21) (.tmp 23) rfl W.heap.size v73 (m + (⟨#[100, 32]⟩ : ByteArray).size) (Bs (bs ++ (⟨#[100, 32]⟩ : ByteArray).data.toList)) rfl P73.out.row sn rfl (by have := M0.out; have := SZ.out; have := KS.out; omega) P73.out.low.size ?_
            intro v75 w75 hr hg ha
            have P75 := Lib.hid (P73.out.app hr hg ha)
            have X75 := Lib.hid (X73.out.app hg ha)
            clear hr hg ha P73 X73
            refine hK _ _ ?_
            clear hK K
            refine wpAny_ready (rs := [7]) (by kernel_rfl) (by simp) ?_
            refine (AllReady.cons rfl (fun K hK => ?_) AllReady.nil)
            refine step_append_Q rfl (.tmp 24) (.tmp 25) 53 rfl W.heap.size 5 (.int .u8 0) 1 1 Tryz.underlying53 Tryz.infoB rfl (by decide) v75 ((m + (⟨#[100, 32]⟩ : ByteArray).size) + sn.size) (Bs ((bs ++ (⟨#[100, 32]⟩ : ByteArray).data.toList) ++ sn.data.toList)) rfl P75.out.row (some ⟨b72, 0, none⟩) 1 1 (Bs [0]) rfl X75.out.src (by have := M0.out; have := SZ.out; have := KS.out; omega) (by have := M0.out; have := SZ.out; have := KS.out; omega) P75.out.low.size ?_
            intro v76 w76 hr hg ha
            have P76 := Lib.hid (P75.out.app hr hg ha)
            clear hr hg ha P75 X75
            refine hK _ _ ?_
            clear hK K
            refine wpAny_ready (rs := [8]) (by kernel_rfl) (by simp) ?_
            refine (AllReady.cons rfl (fun K hK => ?_) AllReady.nil)
            go_simp
            refine hK _ _ ?_
            clear hK K
            refine wpAny_done (by kernel_rfl) ?_ _
            go_wp2_with (at_builtin; refine wpl_append rfl (.tmp 27) (.tmp 29) 53 rfl W.heap.size 5 (.int .u8 0) 1 1 Tryz.underlying53 Tryz.infoB rfl (by decide) v76 (((m + (⟨#[100, 32]⟩ : ByteArray).size) + sn.size) + 1) (Bs (((bs ++ (⟨#[100, 32]⟩ : ByteArray).data.toList) ++ sn.data.toList) ++ [0])) rfl P76.out.row (some ⟨g, 2, none⟩) 32 32 (Bs e.id.1) rfl (blk_id P76.out.blk) (by have := M0.out; have := SZ.out; have := KS.out; omega) (by have := M0.out; have := SZ.out; have := KS.out; omega) P76.out.low.size ?_; intro v9 w9 hr hg ha; have P9 := Lib.hid (P76.out.app hr hg ha); clear hr hg ha)
            go_roundw
            case measure => simp [intOf]; have := HLT.out; omega
            case rel =>
              refine ⟨k + 1, HLT.out, by go_num, (((m + (⟨#[100, 32]⟩ : ByteArray).size) + sn.size) + 1) + 32, ?_, ?_, P9.out.low⟩
              · have := MK.out; have := SZ.out; have := KS.out; omega
              · have h9 := P9.out.row
                rw [NX.out]
                unfold entB
                rw [← TR.out]
                simpa [SN.out] using h9
          ·
            refine step_cell rfl 9 (.tmp 22) rfl ⟨g, 0, none⟩ rfl (.string sn) (Tryz.isAgg9 _) (CN.out _ P72.out.blk) ?_
            refine hK _ _ ?_
            clear hK K
            refine wpAny_ready (rs := [2]) (by kernel_rfl) (by simp) ?_
            refine (AllReady.cons rfl (fun K hK => ?_) AllReady.nil)
            refine step_append_S rfl (.tmp 19) (.tmp 20) rfl W.heap.size v m (Bs bs) rfl P72.out.row (⟨#[100, 32]⟩ : ByteArray) rfl (by have := M0.out; have := SZ.out; have := KS.out; omega) P72.out.low.size ?_
            intro v79 w79 hr hg ha
            have P79 := Lib.hid (P72.out.app hr hg ha)
            have X79 := Lib.hid (X72.out.app hg ha)
            clear hr hg ha P72 X72
            refine hK _ _ ?_
            clear hK K
            refine wpAny_ready (rs := [5]) (by kernel_rfl) (by simp) ?_
            refine (AllReady.cons rfl (fun K hK => ?_) AllReady.nil)
            refine step_append_S rfl (.tmp 21) (.tmp 23) rfl W.heap.size v79 (m + (⟨#[100, 32]⟩ : ByteArray).size) (Bs (bs ++ (⟨#[100, 32]⟩ : ByteArray).data.toList)) rfl P79.out.row sn rfl (by have := M0.out; have := SZ.out; have := KS.out; omega) P79.out.low.size ?_
            intro v80 w80 hr hg ha
            have P80 := Lib.hid (P79.out.app hr hg ha)
            have X80 := Lib.hid (X79.out.app hg ha)
            clear hr hg ha P79 X79
            refine hK _ _ ?_
            clear hK K
            refine wpAny_ready (rs := [7]) (by kernel_rfl) (by simp) ?_
            refine (AllReady.cons rfl (fun K hK => ?_) AllReady.nil)
            refine step_append_Q rfl (.tmp 24) (.tmp 25) 53 rfl W.heap.size 5 (.int .u8 0) 1 1 Tryz.underlying53 Tryz.infoB rfl (by decide) v80 ((m + (⟨#[100, 32]⟩ : ByteArray).size) + sn.size) (Bs ((bs ++ (⟨#[100, 32]⟩ : ByteArray).data.toList) ++ sn.data.toList)) rfl P80.out.row (some ⟨b72, 0, none⟩) 1 1 (Bs [0]) rfl X80.out.src (by have := M0.out; have := SZ.out; have := KS.out; omega) (by have := M0.out; have := SZ.out; have := KS.out; omega) P80.out.low.size ?_
            intro v81 w81 hr hg ha
            have P81 := Lib.hid (P80.out.app hr hg ha)
            clear hr hg ha P80 X80
            refine hK _ _ ?_
            clear hK K
            refine wpAny_ready (rs := [8]) (by kernel_rfl) (by simp) ?_
            refine (AllReady.cons rfl (fun K hK => ?_) AllReady.nil)
            go_simp
            refine hK _ _ ?_
            clear hK K
            refine wpAny_done (by kernel_rfl) ?_ _
            go_wp2_with (at_builtin; refine wpl_append rfl (.tmp 27) (.tmp 29) 53 rfl W.heap.size 5 (.int .u8 0) 1 1 Tryz.underlying53 Tryz.infoB rfl (by decide) v81 (((m + (⟨#[100, 32]⟩ : ByteArray).size) + sn.size) + 1) (Bs (((bs ++ (⟨#[100, 32]⟩ : ByteArray).data.toList) ++ sn.data.toList) ++ [0])) rfl P81.out.row (some ⟨g, 2, none⟩) 32 32 (Bs e.id.1) rfl (blk_id P81.out.blk) (by have := M0.out; have := SZ.out; have := KS.out; omega) (by have := M0.out; have := SZ.out; have := KS.out; omega) P81.out.low.size ?_; intro v9 w9 hr hg ha; have P9 := Lib.hid (P81.out.app hr hg ha); clear hr hg ha)
            go_roundw
            case measure => simp [intOf]; have := HLT.out; omega
            case rel =>
              refine ⟨k + 1, HLT.out, by go_num, (((m + (⟨#[100, 32]⟩ : ByteArray).size) + sn.size) + 1) + 32, ?_, ?_, P9.out.low⟩
              · have := MK.out; have := SZ.out; have := KS.out; omega
              · have h9 := P9.out.row
                rw [NX.out]
                unfold entB
                rw [← TR.out]
                simpa [SN.out] using h9
    · have : k = n := by omega
      subst this
      have hst := HR.out
      rw [List.take_of_length_le (by have := LN.out; omega)] at hst
      obtain ⟨A1, c1, rfl, _, _⟩ := HR.out.shape
      have hsr := hst.src (Bs_one _)
      have HS := Lib.hid (run_str · A1 m c1 (treeB es))
      have HSR := Lib.hid hsr
      clear hst hsr hmk HR
      go_wp2_with (refine wpl_conv rfl 53 9 _ rfl (.string ⟨(treeB es).toArray⟩) (HS.out _ HSR.out) ?_)
      go_ret2
      exact ⟨rfl, BR.out⟩
set_option maxHeartbeats 1600000 in
theorem treePut_any (W : World) (A : Option Addr) (n c : Nat) (es : List Ent) (hs : Src W entE.k A n (entE.row es)) (hn : n ≤ 1099511627776) (hf : NamesFit es) :
    Calls Tryz.prog 58 #[.slice A n c] W fun r W' => r = .returned (putV es) ∧ Below W.heap.size W W' := by
  unfold putV
  cases hm : mayT es
  · have cM := treeMay_any W A n c es hs hn hf
    rw [hm] at cM
    have CM := Lib.hid cM
    clear hs hn hf hm cM
    go_enter Tryz.func58, Tryz.ntmps58
    go_wp2_with (go_at_call 71; refine CM.out.mono ?_; rintro e w1 ⟨rfl, h1⟩; have B1 := Lib.hid h1; clear h1)
    go_ret2
    exact ⟨rfl, B1.out⟩
  · exact treePut_yes W A n c es hs hf hm
end Go.Proofs.YtpbnigpdpkfpaaaGreatDoor
