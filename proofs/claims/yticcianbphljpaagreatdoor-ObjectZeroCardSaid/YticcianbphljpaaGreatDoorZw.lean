/- ObjectZero: an object with something that is not of its kind may not be: the law's walk. -/
import Derived.Test.YticcianbphljpaaGreatDoorZo
import Derived.Test.YticcianbphljpaaGreatDoorRm
import Derived.Test.YticcianbphljpaaGreatDoorP18x
import Derived.Test.YticcianbphljpaaGreatDoorBn
import Derived.Test.YticcianbphljpaaGreatDoorWs
import Derived.Test.YticcianbphljpaaGreatDoorP9x
namespace Go.Proofs.YticcianbphljpaaGreatDoor
open Go.RowKit
theorem built_ea : Tryz.prog.built 27 [(0, .string ⟨#[97]⟩)] = some (encE ⟨[97], false, default⟩).toArray := by
  rw [builtE, fill_one _ _ 0 _ _ 0 [.string ⟨#[97]⟩] rfl (by simp) (by simp [zeroE, encE, encI_len]), Instr.fill]
  simp [zeroE, encE]
theorem zero_blob (o : Obt) (h1 : o.kd ≠ 1) (s : List UInt8) (hs : s ≠ []) : mayO { o with blob := s } = false := by
  unfold mayO
  rw [if_neg h1]
  by_cases h2 : o.kd = 2
  · rw [if_pos h2, decide_eq_false hs]; rfl
  · by_cases h3 : o.kd = 3
    · rw [if_neg h2, if_pos h3, decide_eq_false hs]; rfl
    · rw [if_neg h2, if_neg h3]
theorem zero_note (o : Obt) (h1 : o.kd = 1) (s : List UInt8) (hs : s ≠ []) : mayO { o with com := { o.com with note := s } } = false := by
  unfold mayO
  rw [if_pos h1]
  have : eqC { o.com with note := s } noCom = false := by unfold eqC noCom; simp [hs]
  simp [this]
theorem zero_ents (o : Obt) (h2 : o.kd ≠ 2) (es : List Ent) (hs : es ≠ []) : mayO { o with ents := es } = false := by
  unfold mayO
  by_cases h1 : o.kd = 1
  · rw [if_pos h1, decide_eq_false hs]; rfl
  · by_cases h3 : o.kd = 3
    · rw [if_neg h1, if_neg h2, if_pos h3, decide_eq_false hs]; simp
    · rw [if_neg h1, if_neg h2, if_neg h3]
theorem zero_when (o : Obt) (h2 : o.kd = 2) (b : Nat) (hb : fbits b ≠ fbits 0) : mayO { o with com := { o.com with wh := b } } = false := by
  unfold mayO
  rw [if_neg (by show o.kd ≠ 1; omega), if_pos h2]
  have : eqC { o.com with wh := b } noCom = false := by unfold eqC noCom; simp [hb]
  simp [this]
set_option maxRecDepth 20000 in
set_option maxHeartbeats 12800000 in
theorem objectZeroLaw_any (W : World) (o : Obt) (A : Option Addr) (n k : Nat) (B : Option Addr) (m d : Nat) (h : ObAt W o A n k B m d) (which : Int) (hG : Gl W) (hE : Ge W) :
    Calls Tryz.prog 9 #[.agg (objL o A n k B m d).toArray, .int .i64 which] W fun e W' => e = .returned (.bool true) ∧ Below W.heap.size W W' := by
  obtain ⟨t, ht1, hmask⟩ := and_mask which 1 (by decide)
  obtain ⟨q, hq⟩ : ∃ q : Nat, q = min n 22 := ⟨_, rfl⟩
  obtain ⟨q2, hq2⟩ : ∃ q2 : Nat, q2 = min m 6 := ⟨_, rfl⟩
  obtain ⟨w0, hw0⟩ : ∃ w0, w0 = W.alloc (.cells (objL o A n k B m d).toArray 64) := ⟨_, rfl⟩
  have l0 : Below W.heap.size W w0 := by rw [hw0]; exact (Below.refl _ _).alloc (Nat.le_refl _) _
  have x0 : Blk w0 W.heap.size 64 (objL o A n k B m d) := by rw [hw0]; exact Blk.new W _ _
  have hz0 : w0.heap.size = W.heap.size + 1 := by rw [hw0, hsz]
  have cB := begun6_any w0 (hG.below l0) (hE.below l0)
  have cO := fun w (hw : Below W.heap.size W w) => objCut_any w o A n k B m d (h.below hw) q q2 hq hq2
  have io := infoO o A n k B m d
  have ho1 := objL_len o A n k B m d
  obtain ⟨g, hg⟩ : ∃ g, g = W.heap.size := ⟨_, rfl⟩
  rw [← hg] at x0
  have GN : Hid (g < w0.heap.size) := Lib.hid (by omega)
  have GW : Hid (W.heap.size ≤ g) := Lib.hid (by omega)
  obtain ⟨cl, hcl⟩ : ∃ cl, cl = objL o A n k B m d := ⟨_, rfl⟩
  rw [← hcl] at hw0 x0 cO io ho1 ⊢
  have CB := Lib.hid cB
  have CO := Lib.hid cO
  have X0 := Lib.hid x0
  have L0 := Lib.hid l0
  have IO := Lib.hid io
  have OL := Lib.hid ho1
  have HG := Lib.hid hG
  have NF := Lib.hid h.names
  have H64 := Lib.hid h.com.bits
  have Q22 : Hid (q ≤ 22) := Lib.hid (by omega)
  have Q6 : Hid (q2 ≤ 6) := Lib.hid (by omega)
  clear cB cO x0 l0 io ho1 hG hE hcl h hz0 hq hq2
  go_enter Tryz.func9, Tryz.ntmps9
  go_upto_region 1 with fail
  change Code.wp _ _ _ _ (W.alloc (.cells cl.toArray 64))
  rw [← hw0, ← hg]
  clear hw0 hg
  go_upto_region 5 with (first
    | (go_at_call 13; refine CB.out.mono ?_; rintro e w1 ⟨rfl, hb⟩; have B1 := Lib.hid hb; have X1 := Lib.hid (X0.out.below hb); have L1 := Lib.hid (L0.out.trans (hb.mono L0.out.size)); clear hb)
    | (refine wpl_loadS rfl 64 (.tmp 2) rfl ⟨g, 0, none⟩ rfl cl Tryz.isAgg64 IO.out (fun j u hu => by rw [addr_row _ rfl, Nat.zero_add]; exact X1.out.cell j u hu) ?_)
    | (go_at_call 35; refine (CO.out _ L1.out).mono ?_; rintro e w2 ⟨A2, k2, B2, d2, rfl, hr, ht, hb⟩; have R2 := Lib.hid (hr.mono B1.out.size); have T2 := Lib.hid (ht.mono B1.out.size); have X2 := Lib.hid (X1.out.below hb); have L2 := Lib.hid (L1.out.trans (hb.mono L1.out.size)); have D2 := Lib.hid (Nat.le_trans B1.out.size hb.size); clear hr ht hb)
    | (refine wpl_storeS rfl 64 (.tmp 2) _ rfl g (objL (cutOb o q q2) A2 q k2 B2 q2 d2) rfl rfl 64 cl X2.out (infoO _ _ _ _ _ _ _) (by rw [OL.out, objL_len]) (objL_one _ _ _ _ _ _ _) ?_))
  generalize hw3 : World.setRow _ _ _ = w3
  have S3 : Hid (ObSt W w0.heap.size g (cutOb o q q2) q q2 w3) := Lib.hid (by rw [← hw3]; exact ObSt.cut X2.out R2.out T2.out L2.out GN.out GW.out NF.out H64.out D2.out)
  clear hw3 X0 X1 X2 L0 L1 L2 R2 T2 B1 CB CO IO OL NF H64
  generalize cutOb o q q2 = o2 at S3
  generalize w0.heap.size = N at S3 GN
  obtain ⟨A3, k3, B3, d3, hx3, hr3, ht3⟩ := S3.out.ex
  have at3 := fun w (hw : Below w3.heap.size w3 w) => obAt_row (hr3.below hw) (ht3.below hw) S3.out.names S3.out.blob S3.out.bits S3.out.note
  have cM := fun w (hw : Below w3.heap.size w3 w) => rmayO_any w o2 A3 q k3 B3 q2 d3 (at3 w hw) (by have := Q22.out; omega) (by have := Q6.out; omega)
  have X3 := Lib.hid hx3
  have I3 := Lib.hid (infoO o2 A3 q k3 B3 q2 d3)
  have CM := Lib.hid cM
  clear hx3 hr3 ht3 at3 cM
  generalize objL o2 A3 q k3 B3 q2 d3 = v3 at X3 I3 CM
  cases hmo : mayO o2
  · have CM2 := CM.out
    rw [hmo] at CM2
    have CM3 := Lib.hid CM2
    clear CM2 CM hmo
    go_wp2_with (first
      | (refine wpl_loadS rfl 64 (.tmp 2) rfl ⟨g, 0, none⟩ rfl v3 Tryz.isAgg64 I3.out (fun j u hu => by rw [addr_row _ rfl, Nat.zero_add]; exact X3.out.cell j u hu) ?_)
      | (go_at_call 36; refine (CM3.out _ (Below.refl _ _)).mono ?_; rintro e w4 ⟨rfl, hb⟩; have S4 := Lib.hid (S3.out.below hb); clear hb))
    go_ret
    exact ⟨rfl, S4.out.low⟩
  · have CM2 := CM.out
    rw [hmo] at CM2
    have CM3 := Lib.hid CM2
    have MO := Lib.hid hmo
    clear CM2 CM hmo
    go_upto_block 0 with (first
      | (refine wpl_loadS rfl 64 (.tmp 2) rfl ⟨g, 0, none⟩ rfl v3 Tryz.isAgg64 I3.out (fun j u hu => by rw [addr_row _ rfl, Nat.zero_add]; exact X3.out.cell j u hu) ?_)
      | (go_at_call 36; refine (CM3.out _ (Below.refl _ _)).mono ?_; rintro e w4 ⟨rfl, hb⟩; have S4 := Lib.hid (S3.out.below hb); clear hb))
    clear S3 X3 I3 CM3
    go_cut [20] (fun _ wx => ∃ o3 n3 m3, ObSt W N g o3 n3 m3 wx ∧ n3 ≤ 22 ∧ m3 ≤ 6 ∧ mayO o3 = false)
    case first =>
      have y0 := S4.out.kd
      obtain ⟨⟨u1, c1⟩, f1⟩ := S4.out.cell 1 (by decide)
      obtain ⟨⟨u2, c2⟩, f2⟩ := S4.out.cell 2 (by decide)
      obtain ⟨⟨u36, c36⟩, f36⟩ := S4.out.cell 36 (by decide)
      obtain ⟨⟨u37, c37⟩, f37⟩ := S4.out.cell 37 (by decide)
      obtain ⟨kd, hkd⟩ : ∃ kd, kd = o2.kd := ⟨_, rfl⟩
      rw [← hkd] at y0
      have HKD := Lib.hid hkd
      clear hkd
      have hmask' : bits BinOp.and IntKind.i64 which 1 = (t : Int) := hmask
      clear hmask
      by_cases ht : t = 1
      · have t1 : ((t : Int) == 1) = true := by rw [ht]; rfl
        by_cases h1 : kd = 1
        · have k1 : (kd != (1 : Int)) = false := by rw [h1]; rfl
          go_wp2
          go_meet
          exact ⟨_, q, q2, S4.out.setNote ⟨#[120]⟩ (by decide), Q22.out, Q6.out, zero_note o2 (by rw [← HKD.out]; exact h1) _ (by decide)⟩
        · have k1 : (kd != (1 : Int)) = true := by simpa using h1
          go_wp2
          go_meet
          exact ⟨_, q, q2, S4.out.setBlob ⟨#[120]⟩ (by decide), Q22.out, Q6.out, zero_blob o2 (by rw [← HKD.out]; exact h1) _ (by decide)⟩
      · have t0 : t = 0 := by omega
        subst t0
        by_cases h2 : kd = 2
        · have k2 : (kd != (2 : Int)) = false := by rw [h2]; rfl
          have st := run_storeF w4 ⟨g, 36, none⟩ 4607182418800017408 u36 c36 f36
          go_wp2
          go_meet
          exact ⟨_, q, q2, S4.out.setWhen 4607182418800017408 (by decide), Q22.out, Q6.out, zero_when o2 (by rw [← HKD.out]; exact h2) _ (by decide +kernel)⟩
        · have k2 : (kd != (2 : Int)) = true := by simpa using h2
          go_wp2_with (first
            | (refine wpl_buildP rfl 27 _ rfl (encE ⟨[97], false, default⟩) built_ea ?_)
            | (refine wpl_buildE entE rfl 22 27 1 _ rfl [⟨[97], false, default⟩] rfl rfl (.agg zeroE.toArray) 56 Tryz.underlying22 (by kernel_rfl) (by decide) (by decide) ?_; have S5 := Lib.hid (S4.out.below ((Below.refl _ _).alloc (Nat.le_refl _) (.cells (entE.row [⟨[97], false, default⟩]).toArray 27))); have R5 := Lib.hid (row_new entE w4 N 27 [⟨[97], false, default⟩] S4.out.sz (by decide)); obtain ⟨⟨v2, c2'⟩, f2'⟩ := S5.out.cell 2 (by decide)))
          go_meet
          exact ⟨_, 1, q2, S5.out.setEnts _ _ _ _ R5.out (by decide), by decide, Q6.out, zero_ents o2 (by rw [← HKD.out]; exact h2) _ (by decide)⟩
    case rest =>
      obtain ⟨o3, n3, m3, hS, hn, hm, hmay⟩ := hcut
      obtain ⟨A5, k5, B5, d5, hx5, hr5, ht5⟩ := hS.ex
      have at5 := fun w (hw : Below wc.heap.size wc w) => obAt_row (hr5.below hw) (ht5.below hw) hS.names hS.blob hS.bits hS.note
      have LC := Lib.hid hS.low
      have cP := fun w (hw : Below wc.heap.size wc w) => objPut_any w o3 A5 n3 k5 B5 m3 d5 (at5 w hw) (by omega) (by omega) (HG.out.below (LC.out.trans (hw.mono LC.out.size)))
      have cI := fun w (hw : Below wc.heap.size wc w) => objId_any w o3 A5 n3 k5 B5 m3 d5 (at5 w hw) (by omega) (by omega) (HG.out.below (LC.out.trans (hw.mono LC.out.size)))
      have cM := fun w (hw : Below wc.heap.size wc w) => objMay_any w o3 A5 n3 k5 B5 m3 d5 (at5 w hw) (by omega) (by omega)
      unfold putOV at cP
      unfold idOV at cI
      rw [hmay] at cP cI cM
      have X5 := Lib.hid hx5
      have I5 := Lib.hid (infoO o3 A5 n3 k5 B5 m3 d5)
      have CP := Lib.hid cP
      have CI := Lib.hid cI
      have CM := Lib.hid cM
      clear hx5 hr5 ht5 at5 cP cI cM hS hn hm hmay S4 MO
      generalize objL o3 A5 n3 k5 B5 m3 d5 = v5 at X5 I5 CP CI CM
      go_upto_region 15 with (first
        | (refine wpl_loadS rfl 64 (.tmp 2) rfl ⟨g, 0, none⟩ rfl v5 Tryz.isAgg64 I5.out (fun j u hu => by rw [addr_row _ rfl, Nat.zero_add]; exact X5.out.cell j u hu) ?_)
        | (go_at_call 33; refine (CP.out _ (Below.refl _ _)).mono ?_; rintro e w6 ⟨rfl, hb⟩; have B6 := Lib.hid hb; have X6 := Lib.hid (X5.out.below hb); clear hb))
      go_upto_region 16 with (first
        | (refine wpl_loadS rfl 64 (.tmp 2) rfl ⟨g, 0, none⟩ rfl v5 Tryz.isAgg64 I5.out (fun j u hu => by rw [addr_row _ rfl, Nat.zero_add]; exact X6.out.cell j u hu) ?_)
        | (go_at_call 37; refine (CI.out _ B6.out).mono ?_; rintro e w7 ⟨rfl, hb⟩; have B7 := Lib.hid (B6.out.trans (hb.mono B6.out.size)); clear hb)
        | (refine wpl_storeS rfl 25 (.tmp 8) _ rfl w7.heap.size zero32 rfl rfl 25 zero32 (Blk.new w7 _ _) (by rw [Tryz.sizeId]; simp [zero32]) rfl (Bs_one _) ?_))
      generalize hw8 : World.setRow _ _ _ = w8
      have B8 : Hid (Below wc.heap.size wc w8) := Lib.hid (B7.out.trans (Below.mono (by rw [← hw8]; exact below_setRow' ((Below.refl _ _).alloc (Nat.le_refl _) _) (Nat.le_refl _) _) B7.out.size))
      have X8 := Lib.hid (X5.out.below B8.out)
      clear hw8 B7 B6 X6 X5
      generalize w7.heap.size = g8
      go_wp2_with (first
        | (refine wpl_loadS rfl 64 (.tmp 2) rfl ⟨g, 0, none⟩ rfl v5 Tryz.isAgg64 I5.out (fun j u hu => by rw [addr_row _ rfl, Nat.zero_add]; exact X8.out.cell j u hu) ?_)
        | (go_at_call 38; refine (CM.out _ B8.out).mono ?_; rintro e w9 ⟨rfl, hb⟩; have B9 := Lib.hid (B8.out.trans (hb.mono B8.out.size)); clear hb))
      go_ret
      exact ⟨rfl, LC.out.trans (B9.out.mono LC.out.size)⟩
end Go.Proofs.YticcianbphljpaaGreatDoor
