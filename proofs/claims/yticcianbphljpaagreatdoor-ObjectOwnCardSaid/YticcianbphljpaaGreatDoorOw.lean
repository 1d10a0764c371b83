/- ObjectOwn: what is read is the caller's own; links are a copy: the law's walk. -/
import Derived.Test.YticcianbphljpaaGreatDoorZo
import Derived.Test.YticcianbphljpaaGreatDoorRm
import Derived.Test.YticcianbphljpaaGreatDoorP18x
import Derived.Test.YticcianbphljpaaGreatDoorJr
import Derived.Test.YticcianbphljpaaGreatDoorJm
import Derived.Test.YticcianbphljpaaGreatDoorP17x
import Derived.Test.YticcianbphljpaaGreatDoorSr
import Derived.Test.YticcianbphljpaaGreatDoorP7x
import Derived.Test.YticcianbphljpaaGreatDoorBn
namespace Go.Proofs.YticcianbphljpaaGreatDoor
open Go.RowKit
theorem built_id7 : Tryz.prog.built 25 [(0, .int .u8 7)] = some (encI (idOf 7)).toArray := by kernel_rfl
theorem eqC_symm {a b : Com} (h : eqC a b = true) : eqC b a = true := by
  unfold eqC at h ⊢
  simp only [Bool.and_eq_true, decide_eq_true_eq] at h ⊢
  exact ⟨⟨⟨h.1.1.1.symm, h.1.1.2.symm⟩, h.1.2.symm⟩, h.2.symm⟩
/-- An object's bytes are read as that object. -/
theorem getO_put (o : Obt) (h : mayO o = true) (h64 : o.com.wh < 18446744073709551616) (hn : ∀ e ∈ o.ents, e.nm.length ≤ maxLen) (hb : o.blob.length ≤ 1048576) (hnt : o.com.note.length ≤ 1048576) :
    ∃ o3, getO o.kd (putO o) = (o3, 0) ∧ eqO o3 o = true ∧ (∀ e ∈ o3.ents, e.nm.length ≤ maxLen) ∧ o3.blob.length ≤ 1048576 ∧ o3.com.wh < 18446744073709551616 ∧ o3.com.note.length ≤ 1048576 ∧ o3.ents.length ≤ 20 ∧ o3.com.ps.length ≤ 4 := by
  unfold mayO at h
  by_cases h1 : o.kd = 1
  · rw [if_pos h1] at h
    simp only [Bool.and_eq_true, decide_eq_true_eq] at h
    refine ⟨⟨1, o.blob, [], noCom⟩, ?_, ?_, fun e he => absurd he List.not_mem_nil, hb, by show (0 : Nat) < _; decide, Nat.zero_le _, Nat.zero_le _, Nat.zero_le _⟩
    · have hp : putO o = o.blob := by unfold putO; rw [if_neg (by omega), if_neg (by omega)]
      rw [hp]
      unfold getO
      rw [if_pos h1, if_pos h.2]
    · unfold eqO
      simp only [Bool.and_eq_true, decide_eq_true_eq]
      exact ⟨⟨⟨h1.symm, trivial⟩, h.1.1.symm⟩, eqC_symm h.1.2⟩
  · rw [if_neg h1] at h
    by_cases h2 : o.kd = 2
    · rw [if_pos h2] at h
      simp only [Bool.and_eq_true, decide_eq_true_eq] at h
      refine ⟨⟨2, [], o.ents, noCom⟩, ?_, ?_, hn, Nat.zero_le _, by show (0 : Nat) < _; decide, Nat.zero_le _, mayT_len h.2, Nat.zero_le _⟩
      · unfold getO putO
        rw [if_neg h1, if_pos h2, if_pos h2, getT_put h.2]
      · unfold eqO
        simp only [Bool.and_eq_true, decide_eq_true_eq]
        exact ⟨⟨⟨h2.symm, h.1.1.symm⟩, trivial⟩, eqC_symm h.1.2⟩
    · rw [if_neg h2] at h
      by_cases h3 : o.kd = 3
      · rw [if_pos h3] at h
        simp only [Bool.and_eq_true, decide_eq_true_eq] at h
        refine ⟨⟨3, [], [], o.com⟩, ?_, ?_, fun e he => absurd he List.not_mem_nil, Nat.zero_le _, h64, hnt, Nat.zero_le _, (mayC_fit h.2).1⟩
        · unfold getO putO
          rw [if_neg h1, if_neg h2, if_pos h3, if_neg h2, if_pos h3, getC_put o.com h64 h.2]
        · unfold eqO
          simp only [Bool.and_eq_true, decide_eq_true_eq]
          exact ⟨⟨⟨h3.symm, h.1.1.symm⟩, h.1.2.symm⟩, eqC_self _⟩
      · rw [if_neg h3] at h
        cases h
set_option maxRecDepth 20000 in
set_option maxHeartbeats 12800000 in
theorem objectOwnLaw_any (W : World) (o : Obt) (A : Option Addr) (n k : Nat) (B : Option Addr) (m d : Nat) (h : ObAt W o A n k B m d) (hG : Gl W) (hE : Ge W) :
    Calls Tryz.prog 10 #[.agg (objL o A n k B m d).toArray] W fun e W' => e = .returned (.bool true) ∧ Below W.heap.size W W' := by
  obtain ⟨q, hq⟩ : ∃ q : Nat, q = min n 22 := ⟨_, rfl⟩
  obtain ⟨q2, hq2⟩ : ∃ q2 : Nat, q2 = min m 6 := ⟨_, rfl⟩
  obtain ⟨w0, hw0⟩ : ∃ w0, w0 = W.alloc (.cells (objL o A n k B m d).toArray 64) := ⟨_, rfl⟩
  have l0 : Below W.heap.size W w0 := by rw [hw0]; exact (Below.refl _ _).alloc (Nat.le_refl _) _
  have x0 : Blk w0 W.heap.size 64 (objL o A n k B m d) := by rw [hw0]; exact Blk.new W _ _
  have hz0 : w0.heap.size = W.heap.size + 1 := by rw [hw0, hsz]
  have cB := begun6_any w0 (hG.below l0) (hE.below l0)
  have cO := fun w (hw : Below W.heap.size W w) => objCut_any w o A n k B m d (h.below hw) q q2 hq hq2
  have io := infoO o A n k B m d
  have ho1 := objL_len o A n k B m d
  obtain ⟨g, hg⟩ : ∃ g, g = W.heap.size := ⟨_, rfl⟩
  rw [← hg] at x0
  have GN : Hid (g < w0.heap.size) := Lib.hid (by omega)
  have GW : Hid (W.heap.size ≤ g) := Lib.hid (by omega)
  obtain ⟨cl, hcl⟩ : ∃ cl, cl = objL o A n k B m d := ⟨_, rfl⟩
  rw [← hcl] at hw0 x0 cO io ho1 ⊢
  have CB := Lib.hid cB
  have CO := Lib.hid cO
  have X0 := Lib.hid x0
  have L0 := Lib.hid l0
  have IO := Lib.hid io
  have OL := Lib.hid ho1
  have HG := Lib.hid hG
  have HE := Lib.hid hE
  have NF := Lib.hid h.names
  have H64 := Lib.hid h.com.bits
  have Q22 : Hid (q ≤ 22) := Lib.hid (by omega)
  have Q6 : Hid (q2 ≤ 6) := Lib.hid (by omega)
  clear cB cO x0 l0 io ho1 hG hE hcl h hz0 hq hq2
  go_enter Tryz.func10, Tryz.ntmps10
  go_upto_region 1 with fail
  change Code.wp _ _ _ _ (W.alloc (.cells cl.toArray 64))
  rw [← hw0, ← hg]
  clear hw0 hg
  go_upto_region 5 with (first
    | (go_at_call 13; refine CB.out.mono ?_; rintro e w1 ⟨rfl, hb⟩; have B1 := Lib.hid hb; have X1 := Lib.hid (X0.out.below hb); have L1 := Lib.hid (L0.out.trans (hb.mono L0.out.size)); clear hb)
    | (refine wpl_loadS rfl 64 (.tmp 1) rfl ⟨g, 0, none⟩ rfl cl Tryz.isAgg64 IO.out (fun j u hu => by rw [addr_row _ rfl, Nat.zero_add]; exact X1.out.cell j u hu) ?_)
    | (go_at_call 35; refine (CO.out _ L1.out).mono ?_; rintro e w2 ⟨A2, k2, B2, d2, rfl, hr, ht, hb⟩; have R2 := Lib.hid (hr.mono B1.out.size); have T2 := Lib.hid (ht.mono B1.out.size); have X2 := Lib.hid (X1.out.below hb); have L2 := Lib.hid (L1.out.trans (hb.mono L1.out.size)); have D2 := Lib.hid (Nat.le_trans B1.out.size hb.size); clear hr ht hb)
    | (refine wpl_storeS rfl 64 (.tmp 1) _ rfl g (objL (cutOb o q q2) A2 q k2 B2 q2 d2) rfl rfl 64 cl X2.out (infoO _ _ _ _ _ _ _) (by rw [OL.out, objL_len]) (objL_one _ _ _ _ _ _ _) ?_))
  generalize hw3 : World.setRow _ _ _ = w3
  have S3 : Hid (ObSt W w0.heap.size g (cutOb o q q2) q q2 w3) := Lib.hid (by rw [← hw3]; exact ObSt.cut X2.out R2.out T2.out L2.out GN.out GW.out NF.out H64.out D2.out)
  clear hw3 X0 X1 X2 L0 L1 L2 R2 T2 B1 CB CO IO OL NF H64 D2
  generalize cutOb o q q2 = o2 at S3
  generalize w0.heap.size = N at S3 GN
  obtain ⟨A3, k3, B3, d3, hx3, hr3, ht3⟩ := S3.out.ex
  have at3 : Hid (∀ w, Below w3.heap.size w3 w → ObAt w o2 A3 q k3 B3 q2 d3) := Lib.hid fun w hw => obAt_row (hr3.below hw) (ht3.below hw) S3.out.names S3.out.blob S3.out.bits S3.out.note
  have cM := fun w (hw : Below w3.heap.size w3 w) => rmayO_any w o2 A3 q k3 B3 q2 d3 (at3.out w hw) (by have := Q22.out; omega) (by have := Q6.out; omega)
  have X3 := Lib.hid hx3
  have y3 := hx3.cell 0 _ rfl
  have I3 := Lib.hid (infoO o2 A3 q k3 B3 q2 d3)
  have L3 := Lib.hid S3.out.low
  cases hmo : mayO o2
  · rw [hmo] at cM
    have CM := Lib.hid cM
    clear hx3 hr3 ht3 at3 cM hmo y3
    generalize objL o2 A3 q k3 B3 q2 d3 = v3 at X3 I3 CM
    go_wp2_with (first
      | (refine wpl_loadS rfl 64 (.tmp 1) rfl ⟨g, 0, none⟩ rfl v3 Tryz.isAgg64 I3.out (fun j u hu => by rw [addr_row _ rfl, Nat.zero_add]; exact X3.out.cell j u hu) ?_)
      | (go_at_call 36; refine (CM.out _ (Below.refl _ _)).mono ?_; rintro e w4 ⟨rfl, hb⟩; have S4 := Lib.hid (S3.out.below hb); clear hb))
    go_ret
    exact ⟨rfl, S4.out.low⟩
  · rw [hmo] at cM
    obtain ⟨o3, hgo, hoe, hf3, hb3, h643, hn3, he20, hp4⟩ := getO_put o2 hmo S3.out.bits S3.out.names S3.out.blob S3.out.note
    obtain ⟨sb, hsb⟩ : ∃ sb : ByteArray, sb = ⟨(putO o2).toArray⟩ := ⟨_, rfl⟩
    have hsd : sb.data.toList = putO o2 := by rw [hsb]
    have hsz : sb.size < 4294967281 := by have := putO_size o2 S3.out.bits hmo; rw [ba_size, hsd]; omega
    have cP := fun w (hw : Below w3.heap.size w3 w) => objPut_any w o2 A3 q k3 B3 q2 d3 (at3.out w hw) (by have := Q22.out; omega) (by have := Q6.out; omega) (HG.out.below (L3.out.trans (hw.mono L3.out.size)))
    unfold putOV at cP
    rw [hmo, cond_true, ← hsb] at cP
    have cL := fun w (hw : Below w3.heap.size w3 w) => links_any w o2 A3 q k3 B3 q2 d3 (at3.out w hw) (by have := Q22.out; omega) (by have := Q6.out; omega)
    unfold LinksPost at cL
    obtain ⟨ln, hln⟩ : ∃ ln, ln = (linksO o2).length := ⟨_, rfl⟩
    have hl26 : ln ≤ 30 := by
      rw [hln]
      unfold linksO
      have h1 := entE.src_len (hr3.src (entE.row_one _))
      have h2 := src_len (ht3.src (rowI_one _))
      have := Q22.out
      have := Q6.out
      split
      · rw [List.length_map]; omega
      · split
        · rw [List.length_cons]; omega
        · exact Nat.zero_le _
    rw [← hln] at cL
    generalize linksO o2 = ls at cL
    have cG := fun w (hw : Below w3.heap.size w3 w) => objGet_any w o2.kd sb (putO o2) hsd.symm hsz (HG.out.below (L3.out.trans (hw.mono L3.out.size))) (HE.out.below (L3.out.trans (hw.mono L3.out.size)))
    unfold GetOPost at cG
    rw [hgo] at cG
    simp only [if_true] at cG
    have cQ := fun w A' k' B' d' (hw : Below w3.heap.size w3 w) {N1 N2 : Nat} (h1 : RowQ w N1 27 34 (.slice A' o3.ents.length k') o3.ents.length (entE.row o3.ents)) (h2 : RowQ w N2 25 32 (.slice B' o3.com.ps.length d') o3.com.ps.length (rowI o3.com.ps)) =>
      objEq_any w o3 o2 A' o3.ents.length k' B' o3.com.ps.length d' A3 q k3 B3 q2 d3 (obAt_row h1 h2 hf3 hb3 h643 hn3) (at3.out w hw) (by omega) (by have := Q22.out; omega) (by omega) (by have := Q6.out; omega)
    rw [hoe] at cQ
    obtain ⟨kd, hkd⟩ : ∃ kd, kd = o2.kd := ⟨_, rfl⟩
    rw [← hkd] at cG y3
    have K3 : Hid (∀ w, Below w3.heap.size w3 w → w.cell? ⟨g, 0, none⟩ = some (.int .i64 kd)) := Lib.hid fun w hw => by rw [hkd]; exact (hx3.below hw).cell 0 _ rfl
    obtain ⟨en, hen⟩ : ∃ en, en = o3.ents.length := ⟨_, rfl⟩
    obtain ⟨pn, hpn⟩ : ∃ pn, pn = o3.com.ps.length := ⟨_, rfl⟩
    rw [← hen] at cG cQ he20
    rw [← hpn] at cG cQ hp4
    have oc2 : ∀ A' k' B' d', (objL o3 A' en k' B' pn d')[2]? = some (.slice A' en k') := fun _ _ _ _ => rfl
    have oc35 : ∀ A' k' B' d', (objL o3 A' en k' B' pn d')[35]? = some (.slice B' pn d') := fun A' k' B' d' => by
      unfold objL
      rw [List.getElem?_append_right (by simp)]
      exact (comL_at o3.com B' pn d').1
    have OC2 := Lib.hid oc2
    have OC35 := Lib.hid oc35
    have CM := Lib.hid cM
    have CP := Lib.hid cP
    have CL := Lib.hid cL
    have CG := Lib.hid cG
    have CQ := Lib.hid @cQ
    have L30 := Lib.hid hl26
    have E20 := Lib.hid he20
    have P4 := Lib.hid hp4
    clear hx3 hr3 ht3 at3 cM hmo y3 hgo hoe hf3 hb3 h643 hn3 he20 hp4 hsb hsd hsz cP cL hln hl26 cG cQ hkd hen hpn oc2 oc35 S3
    generalize objL o2 A3 q k3 B3 q2 d3 = v3 at X3 I3 CM CP CL CQ
    go_upto_region 9 with (first
      | (refine wpl_loadS rfl 64 (.tmp 1) rfl ⟨g, 0, none⟩ rfl v3 Tryz.isAgg64 I3.out (fun j u hu => by rw [addr_row _ rfl, Nat.zero_add]; exact X3.out.cell j u hu) ?_)
      | (go_at_call 36; refine (CM.out _ (Below.refl _ _)).mono ?_; rintro e w4 ⟨rfl, hb⟩; have B4 := Lib.hid hb; have X4 := Lib.hid (X3.out.below hb); clear hb)
      | (refine wpl_loadS rfl 64 (.tmp 1) rfl ⟨g, 0, none⟩ rfl v3 Tryz.isAgg64 I3.out (fun j u hu => by rw [addr_row _ rfl, Nat.zero_add]; exact X4.out.cell j u hu) ?_)
      | (go_at_call 33; refine (CP.out _ B4.out).mono ?_; rintro e w5 ⟨rfl, hb⟩; have B5 := Lib.hid (B4.out.trans (hb.mono B4.out.size)); have X5 := Lib.hid (X4.out.below hb); clear hb)
      | (refine wpl_loadS rfl 64 (.tmp 1) rfl ⟨g, 0, none⟩ rfl v3 Tryz.isAgg64 I3.out (fun j u hu => by rw [addr_row _ rfl, Nat.zero_add]; exact X5.out.cell j u hu) ?_)
      | (go_at_call 39; refine (CL.out _ B5.out).mono ?_; rintro e w6 ⟨A6, c6, rfl, hr, hb⟩; have R6 : Hid (OwnR w6 w5.heap.size 25 32 (.slice A6 ln c6) ln) := Lib.hid ⟨_, hr⟩; have D6 := Lib.hid hb; clear hr hb))
    clear CM CP CL X4 B4 X5 Q22 Q6
    have l30 : (ln : Int) ≤ 30 := by have := L30.out; omega
    have e20 : (en : Int) ≤ 20 := by have := E20.out; omega
    have p4 : (pn : Int) ≤ 4 := by have := P4.out; omega
    obtain ⟨x7, hx7⟩ : ∃ x : Idt, x = idOf 7 := ⟨_, rfl⟩
    have BU7 : Hid (Tryz.prog.built 25 [(0, .int .u8 7)] = some (encI x7).toArray) := Lib.hid (by rw [hx7]; exact built_id7)
    clear hx7
    go_upto_region 10 with fail
    as_aux_lemma =>
      go_loopw [31] (fun i wx => ∃ j : Nat, j ≤ ln ∧ i = .int .i64 j ∧ OwnR wx w5.heap.size 25 32 (.slice A6 ln c6) ln ∧ Below w5.heap.size w5 wx) (fun i _ => ln - (intOf i).toNat)
      case atStart => exact ⟨0, Nat.zero_le _, rfl, R6.out, D6.out⟩
      case round =>
        obtain ⟨j, hj, rfl, hO, hb⟩ := hrel
        have DR := Lib.hid hb
        by_cases hlt : j < ln
        · have j1 : (j : Int) < (ln : Int) := by omega
          obtain ⟨hcap, gl, ol, rfl, hg1, _, _, _, hth, hst⟩ := hO.at (by omega)
          have HT := Lib.hid (hth j hlt)
          have HN := Lib.hid (hst j (encI x7) hlt (encI_len _))
          have HLT := Lib.hid hlt
          have GL := Lib.hid hg1
          clear hth hst hO hb hj hlt hg1 hcap R6
          as_aux_lemma =>
            go_wp2_with (first
              | (refine wpl_buildP rfl 25 _ rfl (encI x7) BU7.out ?_)
              | (refine wpl_store_mid rfl 25 (.tmp 37) _ rfl gl (ol + j * 32) (encI x7) rfl rfl (by rw [encI_len]; exact HT.out) (infoId _) (encI_one _) ?_))
            go_roundw
            case measure => simp [intOf]; have := HLT.out; omega
            case rel => exact ⟨j + 1, HLT.out, by go_num, HN.out, below_setCells' DR.out gl _ _ GL.out⟩
        · have j1 : ¬ ((j : Int) < (ln : Int)) := by omega
          have BR := Lib.hid (B5.out.trans (hb.mono B5.out.size))
          clear hO hb hj hlt R6 D6 DR L30
          obtain ⟨V, hV⟩ : ∃ V, V = wr := ⟨_, rfl⟩
          subst hV
          have y14 := K3.out V BR.out
          go_upto_region 15 with (first
            | (go_at_call 34; refine (CG.out _ BR.out).mono ?_; rintro e w7 ⟨hb, A7, c7, B7, d7, rfl, hr, ht⟩; have R7 := Lib.hid hr; have T7 := Lib.hid ht; have D7 := Lib.hid hb; clear hr ht hb)
            | (refine wpl_storeS rfl 64 (.tmp 8) _ rfl w7.heap.size (objL o3 A7 en c7 B7 pn d7) rfl rfl 64 zeroO (Blk.new w7 _ _) (infoO _ _ _ _ _ _ _) (by rw [objL_len]; rfl) (objL_one _ _ _ _ _ _ _) ?_))
          generalize hw8 : World.setRow _ _ _ = w8
          have S8 : Hid (Below w7.heap.size w7 w8) := Lib.hid (by rw [← hw8]; exact below_setRow' ((Below.refl _ _).alloc (Nat.le_refl _) _) (Nat.le_refl _) _)
          have K8 : Hid (Blk w8 w7.heap.size 64 (objL o3 A7 en c7 B7 pn d7)) := Lib.hid (by rw [← hw8]; exact (Blk.new w7 _ zeroO).row _)
          have E8 : Hid (OwnR w8 V.heap.size 27 34 (.slice A7 en c7) en) := Lib.hid ⟨_, R7.out.below S8.out⟩
          have I8 : Hid (OwnR w8 V.heap.size 25 32 (.slice B7 pn d7) pn) := Lib.hid ⟨_, T7.out.below S8.out⟩
          have D8 := Lib.hid (D7.out.trans (S8.out.mono D7.out.size))
          have NE8 : Hid (∀ b, (Value.slice A7 en c7).ownBlock = some b → w7.heap.size ≠ b) := Lib.hid fun b hb => by have := (R7.out.lt b hb).2; omega
          have NI8 : Hid (∀ b, (Value.slice B7 pn d7).ownBlock = some b → w7.heap.size ≠ b) := Lib.hid fun b hb => by have := (T7.out.lt b hb).2; omega
          have z2 := Lib.hid (OC2.out A7 c7 B7 d7)
          have z35 := Lib.hid (OC35.out A7 c7 B7 d7)
          have GR8 : Hid (V.heap.size ≤ w7.heap.size) := Lib.hid D7.out.size
          clear hw8 S8 R7 T7 D7 y14
          generalize objL o3 A7 en c7 B7 pn d7 = v8 at K8 z2 z35
          generalize w7.heap.size = g8 at K8 NE8 NI8 GR8 ⊢
          have y15 := K8.out.cell 2 _ z2.out
          go_upto_region 16 with fail
          clear y15
          as_aux_lemma =>
            go_loopw [49] (fun i wx => ∃ j : Nat, j ≤ en ∧ i = .int .i64 j ∧ OwnR wx V.heap.size 27 34 (.slice A7 en c7) en ∧ OwnR wx V.heap.size 25 32 (.slice B7 pn d7) pn ∧ Blk wx g8 64 v8 ∧ Below V.heap.size V wx) (fun i _ => en - (intOf i).toNat)
            case atStart => exact ⟨0, Nat.zero_le _, rfl, E8.out, I8.out, K8.out, D8.out⟩
            case round =>
              obtain ⟨t, ht, rfl, hO, hP, hK, hb⟩ := hrel
              have DB := Lib.hid hb
              have KB := Lib.hid hK
              have PB' := Lib.hid hP
              have y2 := hK.cell 2 _ z2.out
              by_cases hlt : t < en
              · have t1 : (t : Int) < (en : Int) := by omega
                have OT := Lib.hid (hO.other hP (by decide))
                obtain ⟨hcap, ge, oe, rfl, hg1, _, hcell, hset, _, _⟩ := hO.at (by omega)
                obtain ⟨⟨u, hu⟩, hfz⟩ := hcell (t * 34) (by omega)
                have HN := Lib.hid (hset (t * 34) (.string ⟨#[116, 117, 114, 110, 101, 100]⟩) (by omega))
                have HLT := Lib.hid hlt
                have GL := Lib.hid hg1
                clear hcell hset hO hP hK hb ht hlt hg1 hcap E8 I8 K8 D8
                as_aux_lemma =>
                  go_wp2
                  go_roundw
                  case measure => simp [intOf]; have := HLT.out; omega
                  case rel => exact ⟨t + 1, HLT.out, by go_num, HN.out, PB'.out.cellFar _ (OT.out ge rfl) _, KB.out.far (NE8.out ge rfl) _, below_setCell' DB.out ge _ GL.out _⟩
              · have t1 : ¬ ((t : Int) < (en : Int)) := by omega
                clear hO hP hK hb ht hlt E8 I8 K8 D8 NE8 E20
                have y35 := KB.out.cell 35 _ z35.out
                obtain ⟨V2, hV2⟩ : ∃ V2, V2 = wr := ⟨_, rfl⟩
                subst hV2
                go_upto_region 21 with fail
                clear y2 y35
                as_aux_lemma =>
                  go_loopw [62] (fun i wx => ∃ j : Nat, j ≤ pn ∧ i = .int .i64 j ∧ OwnR wx V.heap.size 25 32 (.slice B7 pn d7) pn ∧ Blk wx g8 64 v8 ∧ Below V.heap.size V wx) (fun i _ => pn - (intOf i).toNat)
                  case atStart => exact ⟨0, Nat.zero_le _, rfl, PB'.out, KB.out, DB.out⟩
                  case round =>
                    obtain ⟨s, hs, rfl, hP, hK, hb⟩ := hrel
                    have DC := Lib.hid hb
                    have KC := Lib.hid hK
                    have y35 := hK.cell 35 _ z35.out
                    by_cases hlt : s < pn
                    · have s1 : (s : Int) < (pn : Int) := by omega
                      obtain ⟨hcap, gl, ol, rfl, hg1, _, _, _, hth, hst⟩ := hP.at (by omega)
                      have HT := Lib.hid (hth s hlt)
                      have HN := Lib.hid (hst s (encI x7) hlt (encI_len _))
                      have HLT := Lib.hid hlt
                      have GL := Lib.hid hg1
                      clear hth hst hP hK hb hs hlt hg1 hcap PB' KB DB
                      as_aux_lemma =>
                        go_wp2_with (first
                          | (refine wpl_buildP rfl 25 _ rfl (encI x7) BU7.out ?_)
                          | (refine wpl_store_mid rfl 25 (.tmp 70) _ rfl gl (ol + s * 32) (encI x7) rfl rfl (by rw [encI_len]; exact HT.out) (infoId _) (encI_one _) ?_))
                        go_roundw
                        case measure => simp [intOf]; have := HLT.out; omega
                        case rel => exact ⟨s + 1, HLT.out, by go_num, HN.out, (heap_setCells_other gl g8 (NI8.out gl rfl) _ _ _).trans KC.out, below_setCells' DC.out gl _ _ GL.out⟩
                    · have s1 : ¬ ((s : Int) < (pn : Int)) := by omega
                      clear hP hK hb hs hlt PB' KB DB KC NI8 P4
                      have BF := Lib.hid (BR.out.trans (DC.out.mono BR.out.size))
                      have y25 := K3.out wr BF.out
                      have X25 := Lib.hid (X3.out.below BF.out)
                      as_aux_lemma =>
                        go_upto_region 26 with (first
                          | (go_at_call 34; refine (CG.out _ BF.out).mono ?_; rintro e w9 ⟨hb, A9, c9, B9, d9, rfl, hr, ht⟩; have R9 := Lib.hid hr; have T9 := Lib.hid ht; have D9 := Lib.hid (BF.out.trans (hb.mono BF.out.size)); clear hr ht hb)
                          | (refine wpl_storeS rfl 64 (.tmp 12) _ rfl w9.heap.size (objL o3 A9 en c9 B9 pn d9) rfl rfl 64 zeroO (Blk.new w9 _ _) (infoO _ _ _ _ _ _ _) (by rw [objL_len]; rfl) (objL_one _ _ _ _ _ _ _) ?_))
                        generalize hwa : World.setRow _ _ _ = wa
                        have Sa : Hid (Below w9.heap.size w9 wa) := Lib.hid (by rw [← hwa]; exact below_setRow' ((Below.refl _ _).alloc (Nat.le_refl _) _) (Nat.le_refl _) _)
                        have Ka : Hid (Blk wa w9.heap.size 64 (objL o3 A9 en c9 B9 pn d9)) := Lib.hid (by rw [← hwa]; exact (Blk.new w9 _ zeroO).row _)
                        have Da := Lib.hid (D9.out.trans (Sa.out.mono D9.out.size))
                        have Ra := Lib.hid (R9.out.below Sa.out)
                        have Ta := Lib.hid (T9.out.below Sa.out)
                        have Xa := Lib.hid (X3.out.below Da.out)
                        have Ia := Lib.hid (infoO o3 A9 en c9 B9 pn d9)
                        have CE := Lib.hid (CQ.out wa A9 c9 B9 d9 Da.out Ra.out Ta.out)
                        have La := Lib.hid (L3.out.trans (Da.out.mono L3.out.size))
                        clear hwa Sa R9 T9 D9 Ra Ta CQ CG y25 X25
                        generalize objL o3 A9 en c9 B9 pn d9 = va at Ka Ia CE
                        generalize w9.heap.size = ga at Ka ⊢
                        go_wp2_with (first
                          | (refine wpl_guard (by rfl) ?_; refine wpl_loadS rfl 64 (.tmp 12) rfl ⟨ga, 0, none⟩ rfl va Tryz.isAgg64 Ia.out (fun j u hu => by rw [addr_row _ rfl, Nat.zero_add]; exact Ka.out.cell j u hu) ?_)
                          | (refine wpl_guard (by rfl) ?_; refine wpl_loadS rfl 64 (.tmp 1) rfl ⟨g, 0, none⟩ rfl v3 Tryz.isAgg64 I3.out (fun j u hu => by rw [addr_row _ rfl, Nat.zero_add]; exact Xa.out.cell j u hu) ?_)
                          | (go_at_call 40; refine CE.out.mono ?_; rintro e wb ⟨rfl, hb⟩; have Lb := Lib.hid (La.out.trans (hb.mono La.out.size)); clear hb))
                        go_ret
                        exact ⟨rfl, Lb.out⟩
end Go.Proofs.YticcianbphljpaaGreatDoor
