/- OidAll: the walk of the law's body. -/
import Derived.Test.YtmnndehoopmmaaaGreatDoorOy
import Derived.Test.YtmnndehoopmmaaaGreatDoorOq
import Derived.Test.YtmnndehoopmmaaaGreatDoorOi
import Derived.Test.YtmnndehoopmmaaaGreatDoorIg
import Derived.Test.YtmnndehoopmmaaaGreatDoorTw
import Derived.Test.YtmnndehoopmmaaaGreatDoorBe
namespace Go.Proofs.YtmnndehoopmmaaaGreatDoor
open Go.RowKit Go.Sort
/-- A name laid in a block of its own. -/
theorem name_laid {w4 w5 : World} (h : Below w4.heap.size w4 w5) (ys : List Value) : Below w4.heap.size w4 ((w5.alloc (.cells zero32.toArray 51)).setRow w5.heap.size ys.toArray) ∧
    Blk ((w5.alloc (.cells zero32.toArray 51)).setRow w5.heap.size ys.toArray) w5.heap.size 51 ys :=
  ⟨below_setRow' (h.alloc h.size _) h.size _, (Blk.new w5 51 zero32).row _⟩
theorem icontains_none (W : World) (p : Option Addr) (c : Nat) (x : Idt) : Calls Tryz.prog 78 #[.slice p 0 c, .agg (encI x).toArray] W fun e W' => e = .returned (.bool false) ∧ Below W.heap.size W W' := by
  have hidx : ∀ w, Calls Tryz.prog 110 #[.slice p 0 c, .agg (encI x).toArray] w fun e w' => e = .returned (.int .i64 (-1)) ∧ Below w.heap.size w w' := fun w => by
    go_enter Tryz.func110, Tryz.ntmps110
    go_wp2
    go_loopw [8] (fun i wr => i = .int .i64 0 ∧ Below w.heap.size w wr) (fun _ _ => 0)
    case atStart => exact ⟨rfl, (Below.refl _ _).alloc (Nat.le_refl _) _⟩
    case round =>
      obtain ⟨rfl, hb⟩ := hrel
      go_wp2
      go_ret
      exact ⟨rfl, hb⟩
  obtain ⟨w1, hw1⟩ : ∃ w1, w1 = W.alloc (.cells (encI x).toArray 51) := ⟨_, rfl⟩
  have hb := (Below.refl W.heap.size W).alloc (Nat.le_refl _) (.cells (encI x).toArray 51)
  have hB := boxI_blk W x
  rw [← hw1] at hb hB
  have lx := infoI x
  have HC := Lib.hid (hidx w1)
  have HB := Lib.hid hb
  have HX := Lib.hid hB
  have LX := Lib.hid lx
  clear hidx hb hB lx
  go_enter Tryz.func78, Tryz.ntmps78
  go_upto_region 1 with fail
  rw [← hw1]
  clear hw1
  go_wp2_with (first
    | (refine wpl_load rfl 51 (.tmp 3) rfl W.heap.size rfl 51 (encI x) HX.out 32 5 Tryz.underlying51 LX.out ?_)
    | (go_at_call 110; refine HC.out.mono ?_; rintro e w' ⟨rfl, h2⟩; have H2 := Lib.hid h2; clear h2))
  go_ret
  exact ⟨rfl, HB.out.trans (H2.out.mono HB.out.size)⟩
set_option maxHeartbeats 1600000 in
theorem ihas_all (W : World) (A : Option Addr) (n c : Nat) (l : List Idt) (hs : Src W 32 A n (rowI l)) (hn : n ≤ 1099511627776) (x : Idt) :
    Calls Tryz.prog 35 #[.slice A n c, .agg (encI x).toArray] W fun e W' => e = .returned (.bool (decide (x ∈ l))) ∧ Below W.heap.size W W' := by
  rcases Nat.eq_zero_or_pos n with h0 | hp
  · subst h0
    have hl : l = [] := List.eq_nil_of_length_eq_zero (src_len hs)
    subst hl
    have e0 : decide (x ∈ ([] : List Idt)) = false := by simp
    rw [e0]
    obtain ⟨w1, hw1⟩ : ∃ w1, w1 = W.alloc (.cells (encI x).toArray 51) := ⟨_, rfl⟩
    have hb := (Below.refl W.heap.size W).alloc (Nat.le_refl _) (.cells (encI x).toArray 51)
    have hB := boxI_blk W x
    rw [← hw1] at hb hB
    have lx := infoI x
    have HC := Lib.hid (icontains_none w1 A c x)
    have HB := Lib.hid hb
    have HX := Lib.hid hB
    have LX := Lib.hid lx
    clear hs hb hB lx
    go_enter Tryz.func35, Tryz.ntmps35
    go_upto_region 1 with fail
    rw [← hw1]
    clear hw1
    go_wp2_with (first
      | (refine wpl_load rfl 51 (.tmp 3) rfl W.heap.size rfl 51 (encI x) HX.out 32 5 Tryz.underlying51 LX.out ?_)
      | (go_at_call 78; refine HC.out.mono ?_; rintro e w' ⟨rfl, h2⟩; have H2 := Lib.hid h2; clear h2))
    go_ret
    exact ⟨rfl, HB.out.trans (H2.out.mono HB.out.size)⟩
  · exact ihas_any W A n c l hs hn hp x
theorem blk_cells {v : World} {g : Nat} {t : TypeId} {cs : List Value} (h : Blk v g t cs) : ∀ w', (∃ s : Ext v, w' = s.at_) → ∀ j u, cs[j]? = some u → w'.cell? ((⟨g, 0, none⟩ : Addr).add j) = some u := fun w' ⟨s, hw⟩ j u hu => by
  subst hw
  rw [add_row _ rfl, Nat.zero_add]
  exact (h.below s.below).cell j u hu
theorem same_name (l : List UInt8) (h : l.length = 32) (w : World) : (binOp .eql 51 (.agg (Bs l).toArray) (.agg (Bs l).toArray)).run Tryz.prog w = .ok (.bool true) w := by
  refine (eqlAtI.1 ⟨l, h⟩ ⟨l, h⟩ w).trans ?_
  show Result.ok (Value.bool (decide ((⟨l, h⟩ : Idt) = ⟨l, h⟩))) w = _
  rw [decide_eq_true rfl]
theorem same_guard (l : List UInt8) (h : l.length = 32) (op : BinOp) (a b : Operand) (w : World) : (eqGuard op 51 a b (.agg (Bs l).toArray) (.agg (Bs l).toArray)).run Tryz.prog w = .ok () w := eqlAtI.2 op a b ⟨l, h⟩ ⟨l, h⟩ w
set_option maxRecDepth 20000 in
set_option maxHeartbeats 8000000 in
theorem oidAll_any (W : World) (kind : Int) (body s : ByteArray) (x y : Idt) (A : Option Addr) (n c : Nat) (ls : List Idt) (hs : Src W 32 A n (rowI ls)) (hc : n ≤ c) (hG : Gl W) :
    Calls Tryz.prog 8 #[.int .i64 kind, .string body, .string s, .agg (encI x).toArray, .agg (encI y).toArray, .slice A n c] W fun e W' => e = .returned (.bool true) ∧ Below W.heap.size W W' := by
  have b1 : Blk (boxes W x y) W.heap.size 51 (encI x) := (Blk.new W _ _).alloc _
  have b2 : Blk (boxes W x y) (W.heap.size + 1) 51 (encI y) := by
    have := Blk.new (W.alloc (.cells (encI x).toArray 51)) 51 (encI y)
    rwa [hsz] at this
  have hl : Below W.heap.size W (boxes W x y) := ((Below.refl _ _).alloc (Nat.le_refl _) _).alloc (by rw [hsz]; omega) _
  have hbx : (W.alloc (.cells (encI x).toArray 51)).alloc (.cells (encI y).toArray 51) = boxes W x y := rfl
  obtain ⟨q, hq⟩ : ∃ q : Nat, q = min n 12 := ⟨_, rfl⟩
  have hmin : min (n : Int) 12 = (q : Int) := by omega
  have hqc : (q : Int) ≤ (c : Int) := by omega
  obtain ⟨l, hll⟩ : ∃ l, l = ls.take q := ⟨_, rfl⟩
  have hsq := srcI_take hs q (by omega)
  rw [← hll] at hsq
  have hq12 : q ≤ 12 := by omega
  obtain ⟨p1, hp1⟩ : ∃ p1 : ByteArray, p1 = ⟨(body.data.toList.take 200).toArray⟩ := ⟨_, rfl⟩
  obtain ⟨p2, hp2⟩ : ∃ p2 : ByteArray, p2 = ⟨(s.data.toList.take 70).toArray⟩ := ⟨_, rfl⟩
  have hz1 : p1.size ≤ 200 := by rw [hp1, ba_size]; simp; omega
  have cT1 : ∀ w, Calls Tryz.prog 19 #[.string body, .int .i64 200] w fun e W' => e = .returned (.string ⟨(body.data.toList.take 200).toArray⟩) ∧ W' = w := fun w => text_cut w body 200
  have cT2 : ∀ w, Calls Tryz.prog 19 #[.string s, .int .i64 70] w fun e W' => e = .returned (.string ⟨(s.data.toList.take 70).toArray⟩) ∧ W' = w := fun w => text_cut w s 70
  rw [← hp1] at cT1
  rw [← hp2] at cT2
  have T1 := Lib.hid cT1
  have T2 := Lib.hid cT2
  have Z1 := Lib.hid hz1
  have X1 := Lib.hid b1
  have X2 := Lib.hid b2
  have HL := Lib.hid hl
  have SQ := Lib.hid hsq
  have HQ := Lib.hid hq12
  have HG := Lib.hid hG
  clear b1 b2 hl hs hc hq hll hsq hq12 hp1 hp2 hz1 cT1 cT2 hG
  go_enter Tryz.func8, Tryz.ntmps8
  go_upto_region 1 with fail
  clear hbx
  generalize hW2 : boxes W x y = w0 at X1 X2 HL ⊢
  clear hW2
  generalize W.heap.size + 1 = g10 at X2 ⊢
  obtain ⟨g9, hg9⟩ : ∃ g9, g9 = W.heap.size := ⟨_, rfl⟩
  rw [← hg9] at X1 ⊢
  clear hg9
  have HB := Lib.hid (begun_any w0 (HG.out.below HL.out))
  go_upto_region 4 with (first
      | (go_at_call 10; refine HB.out.mono ?_; rintro e w1 ⟨rfl, hb⟩; have L1 := Lib.hid (HL.out.trans (hb.mono HL.out.size)); have A1 := Lib.hid (X1.out.below hb); have B1 := Lib.hid (X2.out.below hb); clear hb))
  clear X1 X2 HL HB
  go_upto_region 6 with (first
    | (go_at_call 19; (with_reducible refine (T1.out _).mono ?_); rintro e w' ⟨rfl, hw⟩; replace hw := hw.symm; subst hw)
    | (go_at_call 19; (with_reducible refine (T2.out _).mono ?_); rintro e w' ⟨rfl, hw⟩; replace hw := hw.symm; subst hw))
  obtain ⟨r, hr⟩ : ∃ r, r = sha256 (ofL kind p1.data.toList) := ⟨_, rfl⟩
  have hrl : r.length = 32 := by rw [hr]; exact sha256_length _
  have cO := of_any w1 kind p1 (by have := Z1.out; omega) (HG.out.below L1.out)
  have cI := fun w => rid_any w kind p1 _ rfl (by have := Z1.out; omega)
  rw [← hr] at cO
  simp only [← hr] at cI
  have CO := Lib.hid cO
  have CI := Lib.hid cI
  have HLN := Lib.hid hrl
  clear hr hrl cO cI
  have zI := zI_eq
  go_upto_region 7 with (first
    | (go_at_call 37; refine CO.out.mono ?_; rintro e w2 ⟨rfl, hb⟩; have D1 := Lib.hid hb; clear hb)
    | (refine wpl_store rfl 51 (.tmp 14) _ rfl w2.heap.size (Bs r) rfl rfl 51 zero32 (Blk.new w2 _ _) (by rw [Tryz.sizeId]; simp [HLN.out]) (by simp [zero32, HLN.out]) (Bs_one _) ?_))
  have E1 := Lib.hid (D1.out.trans ((name_laid (Below.refl _ w2) (Bs r)).1.mono D1.out.size))
  have K14 := Lib.hid (name_laid (Below.refl _ w2) (Bs r)).2
  generalize (w2.alloc (.cells zero32.toArray 51)).setRow w2.heap.size ((Bs r)).toArray = w3 at E1 K14 ⊢
  generalize w2.heap.size = g14 at K14 ⊢
  clear CO D1
  have hx32 := encI_len x
  have A3 := Lib.hid (A1.out.below E1.out)
  have cHx : ∀ w, Calls Tryz.prog 39 #[.agg (encI x).toArray] w fun e W' => e = .returned (.string ⟨(hexL x.1).toArray⟩) ∧ Below w.heap.size w W' := fun w => hex_any w x.1 x.2
  have cRx : ∀ w, Calls Tryz.prog 42 #[.agg (encI x).toArray] w fun e W' => e = .returned (.string ⟨(hexL x.1).toArray⟩) ∧ Below w.heap.size w W' := fun w => rhex_any w x.1 x.2
  have cGx : ∀ w, Calls Tryz.prog 38 #[.string ⟨(hexL x.1).toArray⟩] w fun e W' => e = .returned (.tuple #[.agg (encI x).toArray, .bool true]) ∧ Below w.heap.size w W' := fun w => by
    have h := idGet_any w ⟨(hexL x.1).toArray⟩ (hexL x.1) rfl
    rw [idR_hexL x.1 (by rw [hexL_length]; have := x.2; omega)] at h
    exact h
  obtain ⟨hx, hhx⟩ : ∃ hx : ByteArray, hx = ⟨(hexL x.1).toArray⟩ := ⟨_, rfl⟩
  rw [← hhx] at cGx
  simp only [← hhx] at cHx cRx
  obtain ⟨z, hz⟩ : ∃ z, z = Bs (idR p2.data.toList).1 := ⟨_, rfl⟩
  obtain ⟨ok, hok⟩ : ∃ ok, ok = (idR p2.data.toList).2 := ⟨_, rfl⟩
  have cGs : ∀ w, Calls Tryz.prog 38 #[.string p2] w fun e W' => e = .returned (.tuple #[.agg z.toArray, .bool ok]) ∧ Below w.heap.size w W' := fun w => by rw [hz, hok]; exact idGet_any w p2 _ rfl
  have cRs : ∀ w, Calls Tryz.prog 40 #[.string p2] w fun e W' => e = .returned (.tuple #[.agg z.toArray, .bool ok]) ∧ Below w.heap.size w W' := fun w => by rw [hz, hok]; exact getHex_any w p2 _ rfl
  have hzl : z.length = 32 := by rw [hz, Bs_length]; exact idR_len _
  have eqZ : ∀ w, (binOp .eql 51 (.agg z.toArray) (.agg z.toArray)).run Tryz.prog w = .ok (.bool true) w := by rw [hz]; exact same_name _ (idR_len _)
  have guZ : ∀ op a b w, (eqGuard op 51 a b (.agg z.toArray) (.agg z.toArray)).run Tryz.prog w = .ok () w := by rw [hz]; exact same_guard _ (idR_len _)
  have EZ := Lib.hid eqZ
  have GZ := Lib.hid guZ
  clear eqZ guZ
  have hz1 : ∀ v ∈ z, v.oneCell' = true := by rw [hz]; exact Bs_one _
  have CHx := Lib.hid cHx
  have CRx := Lib.hid cRx
  have CGx := Lib.hid cGx
  have CGs := Lib.hid cGs
  have CRs := Lib.hid cRs
  have ZL := Lib.hid hzl
  have ZO := Lib.hid hz1
  have XL := Lib.hid hx32
  have XO := Lib.hid (encI_one x)
  clear hx32 cHx cRx cGx cGs cRs hhx hz hok hzl hz1
  go_upto_region 8 with (first
    | (refine wpl_load rfl 51 (.tmp 9) rfl g9 rfl 51 (encI x) A3.out 32 5 Tryz.underlying51 (by rw [Tryz.sizeId, XL.out]) ?_)
    | (go_at_call 39; refine (CHx.out _).mono ?_; rintro e w4 ⟨rfl, hb⟩; have D3 := Lib.hid hb; clear hb)
    | (go_at_call 38; refine (CGx.out _).mono ?_; rintro e w5 ⟨rfl, hb⟩; have D4 := Lib.hid (D3.out.trans (hb.mono D3.out.size)); clear hb)
    | (refine wpl_store rfl 51 (.tmp 15) _ rfl w5.heap.size (encI x) rfl rfl 51 zero32 (Blk.new w5 _ _) (by rw [Tryz.sizeId, XL.out]) (by rw [XL.out]; rfl) (XO.out) ?_))
  have E3 := Lib.hid (D4.out.trans ((name_laid (Below.refl _ w5) (encI x)).1.mono D4.out.size))
  have K15 := Lib.hid (name_laid (Below.refl _ w5) (encI x)).2
  generalize (w5.alloc (.cells zero32.toArray 51)).setRow w5.heap.size ((encI x)).toArray = w6 at E3 K15 ⊢
  generalize w5.heap.size = g15 at K15 ⊢
  clear D3 D4
  go_upto_region 9 with (first
    | (go_at_call 38; refine (CGs.out _).mono ?_; rintro e w7 ⟨rfl, hb⟩; have D6 := Lib.hid hb; clear hb)
    | (refine wpl_store rfl 51 (.tmp 17) _ rfl w7.heap.size (z) rfl rfl 51 zero32 (Blk.new w7 _ _) (by rw [Tryz.sizeId, ZL.out]) (by rw [ZL.out]; rfl) (ZO.out) ?_))
  have E6 := Lib.hid (D6.out.trans ((name_laid (Below.refl _ w7) z).1.mono D6.out.size))
  have K17 := Lib.hid (name_laid (Below.refl _ w7) z).2
  generalize (w7.alloc (.cells zero32.toArray 51)).setRow w7.heap.size (z).toArray = w8 at E6 K17 ⊢
  generalize w7.heap.size = g17 at K17 ⊢
  clear D6
  go_upto_region 10 with (first
    | (go_at_call 40; refine (CRs.out _).mono ?_; rintro e w9 ⟨rfl, hb⟩; have D8 := Lib.hid hb; clear hb)
    | (refine wpl_store rfl 51 (.tmp 19) _ rfl w9.heap.size (z) rfl rfl 51 zero32 (Blk.new w9 _ _) (by rw [Tryz.sizeId, ZL.out]) (by rw [ZL.out]; rfl) (ZO.out) ?_))
  have E8 := Lib.hid (D8.out.trans ((name_laid (Below.refl _ w9) z).1.mono D8.out.size))
  have K19 := Lib.hid (name_laid (Below.refl _ w9) z).2
  generalize (w9.alloc (.cells zero32.toArray 51)).setRow w9.heap.size (z).toArray = wa at E8 K19 ⊢
  generalize w9.heap.size = g19 at K19 ⊢
  clear D8
  have E68 := Lib.hid (E6.out.trans (E8.out.mono E6.out.size))
  have E38 := Lib.hid (E3.out.trans (E68.out.mono E3.out.size))
  have E18 := Lib.hid (E1.out.trans (E38.out.mono E1.out.size))
  have EW := Lib.hid (L1.out.trans (E18.out.mono L1.out.size))
  have SA := Lib.hid (srcI_below SQ.out EW.out)
  have cSo := isort_any wa A q c l SA.out (by have := HQ.out; omega)
  have CSo := Lib.hid cSo
  clear cSo
  go_upto_region 11 with (first
    | (go_at_call 33; refine CSo.out.mono ?_; rintro e wb ⟨A2, c2, rfl, h1, h2⟩; have T2' := Lib.hid h1; have DB := Lib.hid h2; clear h1 h2))
  obtain ⟨t, ht⟩ : ∃ t, t = sortI l := ⟨_, rfl⟩
  rw [← ht] at T2' ⊢
  have HT := Lib.hid ht
  have TL : Hid (t.length ≤ 1099511627776) := Lib.hid (by have h1 := sortI_len l; have h2 := src_len SQ.out; have h3 := HQ.out; rw [ht]; omega)
  clear ht
  have E8b := Lib.hid (E8.out.trans (DB.out.mono E8.out.size))
  have E6b := Lib.hid (E68.out.trans (DB.out.mono E68.out.size))
  have E3b := Lib.hid (E38.out.trans (DB.out.mono E38.out.size))
  have E1b := Lib.hid (E18.out.trans (DB.out.mono E18.out.size))
  have EWb := Lib.hid (EW.out.trans (DB.out.mono EW.out.size))
  have k9 : Blk wb.drew g9 51 (encI x) := A1.out.below E1b.out.drew
  have k10 : Blk wb.drew g10 51 (encI y) := B1.out.below E1b.out.drew
  have k14 : Blk wb.drew g14 51 (Bs r) := K14.out.below E3b.out.drew
  have k15 : Blk wb.drew g15 51 (encI x) := K15.out.below E6b.out.drew
  have k17 : Blk wb.drew g17 51 z := K17.out.below E8b.out.drew
  have k19 : Blk wb.drew g19 51 z := K19.out.below DB.out.drew
  have st : Src wb.drew 32 A2 t.length (rowI t) := T2'.out
  have eWv : Below W.heap.size W wb.drew := EWb.out.drew
  have I14 : Hid ((Tryz.prog.info? 51).map (·.size) = some (Bs r).length) := Lib.hid (by rw [Tryz.sizeId, Bs_length, HLN.out])
  have IX := Lib.hid (infoI x)
  have IY := Lib.hid (infoI y)
  have IZ : Hid ((Tryz.prog.info? 51).map (·.size) = some z.length) := Lib.hid (by rw [Tryz.sizeId, ZL.out])
  clear E1 E3 E6 E8 E68 E38 E18 EW SA CSo T2' DB E8b E6b E3b E1b EWb A1 B1 K14 K15 K17 K19 A3 L1 T1 T2
  refine wp_region_any (by kernel_rfl) ?_
  change wpAny _ _ _ _ _ _ _ (World.drew _)
  generalize World.drew wb = v at k9 k10 k14 k15 k17 k19 st eWv ⊢
  have C9 := Lib.hid (blk_cells k9)
  have C10 := Lib.hid (blk_cells k10)
  have C14 := Lib.hid (blk_cells k14)
  have C15 := Lib.hid (blk_cells k15)
  have C17 := Lib.hid (blk_cells k17)
  have C19 := Lib.hid (blk_cells k19)
  have ST := Lib.hid st
  have EV := Lib.hid eWv
  clear k9 k10 k14 k15 k17 k19 st eWv
  have eqR := same_name r HLN.out
  have guR := same_guard r HLN.out
  have eqX : ∀ w, (binOp .eql 51 (.agg (encI x).toArray) (.agg (encI x).toArray)).run Tryz.prog w = .ok (.bool true) w := same_name x.1 x.2
  have guX : ∀ op a b w, (eqGuard op 51 a b (.agg (encI x).toArray) (.agg (encI x).toArray)).run Tryz.prog w = .ok () w := same_guard x.1 x.2
  obtain ⟨lb, hlb⟩ : ∃ lb, lb = ilt x y := ⟨_, rfl⟩
  have cL := fun w => iless_any w x y
  have cM := fun w => lessId_any w x y
  rw [← hlb] at cL
  simp only [← hlb] at cM
  have CL := Lib.hid cL
  have CM := Lib.hid cM
  clear cL cM hlb
  have eqZ := EZ.out
  have guZ := GZ.out
  have hemp := ext_nonempty v
  refine wpAny_stage (C := fun w' => ∃ s : Ext v, w' = s.at_) 0 39 16 ⟨⟨v, Below.refl _ _⟩, rfl⟩ (by kernel_rfl) (by rfl) ?_
  simp only [List.take_succ_cons, List.take_zero, List.drop_zero]
  refine wpQuiet_loadA (by rfl) 51 (.tmp 14) rfl ⟨g14, 0, none⟩ rfl (Bs r) 32 5 Tryz.underlying51 I14.out C14.out ?_
  quiet_step (fail)
  repeat (go_big_quiet_step ((go_at_call 41; exact Ext.call (CI.out _))))
  repeat (go_big_quiet_step (fail))
  refine wpQuiet_loadA (by rfl) 51 (.tmp 9) rfl ⟨g9, 0, none⟩ rfl (encI x) 32 5 Tryz.underlying51 IX.out C9.out ?_
  quiet_step ((go_at_call 39; exact Ext.call (CHx.out _)))
  refine wpQuiet_loadA (by rfl) 51 (.tmp 9) rfl ⟨g9, 0, none⟩ rfl (encI x) 32 5 Tryz.underlying51 IX.out C9.out ?_
  quiet_step ((go_at_call 42; exact Ext.call (CRx.out _)))
  repeat (go_big_quiet_step (fail))
  refine wpQuiet_loadA (by rfl) 51 (.tmp 15) rfl ⟨g15, 0, none⟩ rfl (encI x) 32 5 Tryz.underlying51 IX.out C15.out ?_
  refine wpQuiet_loadA (by rfl) 51 (.tmp 9) rfl ⟨g9, 0, none⟩ rfl (encI x) 32 5 Tryz.underlying51 IX.out C9.out ?_
  quiet_step (fail)
  repeat (go_big_quiet_step (fail))
  refine wpQuiet_loadA (by rfl) 51 (.tmp 17) rfl ⟨g17, 0, none⟩ rfl z 32 5 Tryz.underlying51 IZ.out C17.out ?_
  refine wpQuiet_loadA (by rfl) 51 (.tmp 19) rfl ⟨g19, 0, none⟩ rfl z 32 5 Tryz.underlying51 IZ.out C19.out ?_
  quiet_step (fail)
  repeat (go_big_quiet_step (fail))
  refine wpQuiet_loadA (by rfl) 51 (.tmp 9) rfl ⟨g9, 0, none⟩ rfl (encI x) 32 5 Tryz.underlying51 IX.out C9.out ?_
  refine wpQuiet_loadA (by rfl) 51 (.tmp 10) rfl ⟨g10, 0, none⟩ rfl (encI y) 32 5 Tryz.underlying51 IY.out C10.out ?_
  quiet_step ((go_at_call 34; exact Ext.call (CL.out _)))
  refine wpQuiet_loadA (by rfl) 51 (.tmp 9) rfl ⟨g9, 0, none⟩ rfl (encI x) 32 5 Tryz.underlying51 IX.out C9.out ?_
  refine wpQuiet_loadA (by rfl) 51 (.tmp 10) rfl ⟨g10, 0, none⟩ rfl (encI y) 32 5 Tryz.underlying51 IY.out C10.out ?_
  quiet_step ((go_at_call 43; exact Ext.call (CM.out _)))
  repeat (go_big_quiet_step (fail))
  refine wpQuiet_nil ?_
  rintro _ ⟨s9, rfl⟩
  have L9 := Lib.hid s9.below
  generalize s9.at_ = v9 at L9 ⊢
  have cS := rsort_any v9 A q c l (srcI_below SQ.out (EV.out.trans (L9.out.mono EV.out.size))) (by have := HQ.out; omega)
  rw [← HT.out] at cS
  have CS := Lib.hid cS
  clear cS
  refine wpAny_bare [39, 40, 41] 13 (by rfl) (by kernel_rfl) (fun _ _ _ d _ h => by cases d <;> exact h) ?_
  simp only [bareO, List.filterMap_cons, List.filterMap_nil, List.getElem?_toArray, List.getElem?_cons_succ, List.getElem?_cons_zero]
  repeat (first | quiet_step (fail) | go_big_quiet_step (fail))
  refine wpQuiet_nil ?_
  refine wpAny_ready (rs := [42]) (by kernel_rfl) (by simp) ?_
  refine AllReady.cons rfl (fun K hK => ?_) AllReady.nil
  go_simp
  refine CS.out.mono ?_
  rintro e w10 ⟨A3, c3, rfl, h1, h2⟩
  have T3 := Lib.hid h1
  have L10 := Lib.hid (L9.out.trans (h2.mono L9.out.size))
  clear h1 h2
  refine hK _ _ ?_
  clear hK K
  refine wpAny_ready (rs := [43]) (by kernel_rfl) (by simp) ?_
  refine AllReady.cons rfl (fun K hK => ?_) AllReady.nil
  go_simp
  refine (ieq_same w10 A2 A3 t.length c2 c3 t (srcI_below ST.out L10.out) T3.out TL.out).mono ?_
  rintro e w11 ⟨rfl, q9, h11⟩
  have L11 : Hid (Below v.heap.size v w11) := Lib.hid (by rw [h11]; exact below_drewN' L10.out _)
  clear h11
  refine hK _ _ ?_
  clear hK K
  refine wpAny_ready (rs := [44]) (by kernel_rfl) (by simp) ?_
  refine AllReady.cons rfl (fun K hK => ?_) AllReady.nil
  go_simp
  refine hK _ _ ?_
  clear hK K
  have C9v : ∀ w', (∃ s : Ext w11, w' = s.at_) → ∀ j u, (encI x)[j]? = some u → w'.cell? ((⟨g9, 0, none⟩ : Addr).add j) = some u := fun w' ⟨s, hw⟩ => C9.out w' ⟨⟨s.at_, L11.out.trans (s.below.mono L11.out.size)⟩, by rw [hw]; rfl⟩
  have cA : ∀ s : Ext w11, Calls Tryz.prog 35 #[.slice A q c, .agg (encI x).toArray] s.at_ fun e w' => e = .returned (.bool (decide (x ∈ l))) ∧ Below s.at_.heap.size s.at_ w' := fun s =>
    ihas_all s.at_ A q c l (srcI_below SQ.out (EV.out.trans ((L11.out.trans (s.below.mono L11.out.size)).mono EV.out.size))) (by have := HQ.out; omega) x
  have cB : ∀ s : Ext w11, Calls Tryz.prog 45 #[.slice A q c, .agg (encI x).toArray] s.at_ fun e w' => e = .returned (.bool (decide (x ∈ l))) ∧ Below s.at_.heap.size s.at_ w' := fun s =>
    rhas_any s.at_ A q c l (srcI_below SQ.out (EV.out.trans ((L11.out.trans (s.below.mono L11.out.size)).mono EV.out.size))) (by have := HQ.out; omega) x
  generalize decide (x ∈ l) = hb at cA cB
  have C9w := Lib.hid C9v
  have CA := Lib.hid cA
  have CB := Lib.hid cB
  clear C9v cA cB hemp
  have hemp := ext_nonempty w11
  refine wpAny_head (C := fun w' => ∃ s : Ext w11, w' = s.at_) 45 54 ⟨⟨w11, Below.refl _ _⟩, rfl⟩ (by kernel_rfl) ?_ (by rfl)
  simp only [List.take_succ_cons, List.take_zero, List.drop_succ_cons, List.drop_zero]
  repeat (go_big_quiet_step (fail))
  refine wpQuiet_loadA (by rfl) 51 (.tmp 9) rfl ⟨g9, 0, none⟩ rfl (encI x) 32 5 Tryz.underlying51 IX.out C9w.out ?_
  quiet_step ((go_at_call 35; exact Ext.call (CA.out _)))
  repeat (go_big_quiet_step (fail))
  refine wpQuiet_loadA (by rfl) 51 (.tmp 9) rfl ⟨g9, 0, none⟩ rfl (encI x) 32 5 Tryz.underlying51 IX.out C9w.out ?_
  quiet_step ((go_at_call 45; exact Ext.call (CB.out _)))
  repeat (go_big_quiet_step (fail))
  refine wpQuiet_nil ?_
  rintro _ ⟨s12, rfl⟩
  go_wp2
  go_ret
  exact ⟨rfl, (EV.out.trans (L11.out.mono EV.out.size)).trans (s12.below.mono (by have := EV.out.size; have := L11.out.size; omega))⟩
end Go.Proofs.YtmnndehoopmmaaaGreatDoor
