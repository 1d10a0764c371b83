/- OidSort: the walk of the law's body. -/
import Derived.Test.YtmnndehoopmmaaaGreatDoorRw
import Derived.Test.YtmnndehoopmmaaaGreatDoorBe
namespace Go.Proofs.YtmnndehoopmmaaaGreatDoor
open Go.RowKit Go.Sort
theorem rises_at {l : List Idt} (h : Rises l) (k : Nat) (hk : k < l.length) (h0 : 0 < k) : ilt l[k - 1]! l[k]! = true := by
  have := List.pairwise_iff_getElem.1 h (k - 1) k (by omega) hk (by omega)
  rw [getElem!_pos l k hk, getElem!_pos l (k - 1) (by omega)]
  exact this
theorem mem_at {l : List Idt} (k : Nat) (hk : k < l.length) : l[k]! ∈ l := by rw [getElem!_pos l k hk]; exact List.getElem_mem _
set_option maxRecDepth 20000 in
set_option maxHeartbeats 8000000 in
theorem oidSort_any (W : World) (A : Option Addr) (n c : Nat) (ls : List Idt) (hs : Src W 32 A n (rowI ls)) (hc : n ≤ c) (_hm : c ≤ maxLen) (hG : Gl W) :
    Calls Tryz.prog 7 #[.slice A n c] W fun e W' => e = .returned (.bool true) ∧ Below W.heap.size W W' := by
  have hbe := begun_any W hG
  have HB := Lib.hid hbe
  obtain ⟨q, hq⟩ : ∃ q : Nat, q = min n 20 := ⟨_, rfl⟩
  have hmin : min (n : Int) 20 = (q : Int) := by omega
  have hqc : (q : Int) ≤ (c : Int) := by omega
  obtain ⟨l, hl⟩ : ∃ l, l = ls.take q := ⟨_, rfl⟩
  have hsq := srcI_take hs q (by omega)
  rw [← hl] at hsq
  have hq20 : q ≤ 20 := by omega
  have hlq := src_len hsq
  have SQ := Lib.hid hsq
  have HQ := Lib.hid hq20
  have LQ := Lib.hid hlq
  obtain ⟨ht1, ht2⟩ := sortI_holds l
  have htt := sortI_sortI l
  have htl := sortI_len l
  obtain ⟨t, et⟩ : ∃ t, t = sortI l := ⟨_, rfl⟩
  rw [← et] at ht1 ht2 htt htl
  have HT1 := Lib.hid ht1
  have HT2 := Lib.hid ht2
  have HTT := Lib.hid htt
  have HTL := Lib.hid htl
  have ET := Lib.hid et
  clear hbe hG hs hc hq hl hsq hq20 hlq ht1 ht2 htt htl et
  go_enter Tryz.func7, Tryz.ntmps7
  go_upto_region 4 with (first
      | (go_at_call 10; refine HB.out.mono ?_; rintro e w1 ⟨rfl, hb⟩; have L1 := Lib.hid hb; clear hb))
  go_upto_region 6 with (first
    | (go_at_call 33; refine (isort_any w1 A q c l (srcI_below SQ.out L1.out) (by have := HQ.out; omega)).mono ?_; rintro e w2 ⟨A2, c2, rfl, h1, h2⟩; rw [← ET.out] at h1; rw [← ET.out]; have T2 := Lib.hid h1; have L2 := Lib.hid (L1.out.trans (h2.mono L1.out.size)); clear h1 h2))
  obtain ⟨m, em⟩ : ∃ m, m = t.length := ⟨_, rfl⟩
  have EM := Lib.hid em
  rw [← em] at T2 ⊢
  clear em
  have S2 := Lib.hid (srcI_below SQ.out L2.out)
  have hm20 : m ≤ 20 := by have := EM.out; have := HTL.out; have := LQ.out; have := HQ.out; omega
  have HM := Lib.hid hm20
  clear hm20
  go_wp2
  go_loopw [19] (fun i wr => ∃ k : Nat, k ≤ m ∧ i = .int .i64 k ∧ Below w2.heap.size w2 wr) (fun i _ => m - (intOf i).toNat)
  case atStart => exact ⟨0, by omega, rfl, Below.refl _ _⟩
  case round =>
    obtain ⟨k, hk, rfl, hb⟩ := hrel
    have BR := Lib.hid hb
    clear hb
    by_cases hlt : k < m
    · have hkt : k < t.length := by have := EM.out; omega
      have hq0 : 0 < q := by have := HTL.out; have := LQ.out; omega
      obtain ⟨htl, b2, o2, rfl, ct⟩ := src_names T2.out (by omega)
      have hl1 : (k : Int) < (m : Int) := by omega
      have hm1 : (m : Int) ≤ 20 := by have := HM.out; omega
      have hmem : t[k]! ∈ l := (HT2.out _).1 (mem_at k hkt)
      have cH : ∀ s : Ext wr, Calls Tryz.prog 35 #[.slice A q c, .agg (encI t[k]!).toArray] s.at_ fun e w' => e = .returned (.bool true) ∧ Below s.at_.heap.size s.at_ w' := fun s => by
        have := ihas_any s.at_ A q c l (srcI_below S2.out (BR.out.trans (s.below.mono BR.out.size))) (by have := HQ.out; omega) hq0 t[k]!
        rw [decide_eq_true hmem] at this
        exact this
      have c1 : ∀ w', (∃ s : Ext wr, w' = s.at_) → ∀ j v, (encI t[k]!)[j]? = some v → w'.cell? ((⟨b2, o2 + k * 32, none⟩ : Addr).add j) = some v := fun w' ⟨s, hw⟩ => by
        subst hw
        obtain ⟨_, b3, o3, e3, ct3⟩ := src_names (srcI_below T2.out (BR.out.trans (s.below.mono BR.out.size))) (by omega)
        injection e3 with e3
        injection e3 with e4 e5 _
        subst e4; subst e5
        exact at_name (ct3 k hlt)
      have i1 := infoI t[k]!
      have CH := Lib.hid cH
      have C1 := Lib.hid c1
      have I1 := Lib.hid i1
      have HK := Lib.hid hk
      have HL := Lib.hid hlt
      by_cases h0 : k = 0
      · subst h0
        generalize encI t[0]! = cs at CH C1 I1
        clear cH c1 i1 hmem ct hkt htl hk hlt hq0
        go_upto_region 9 with fail
        refine wp_region_ext (by kernel_rfl) (by kernel_rfl) ?_
        have hemp := ext_nonempty wr
        repeat (go_big_quiet_step (fail))
        refine wpQuiet_loadA (by rfl) 51 (.tmp 41) rfl ⟨b2, o2 + 0 * 32, none⟩ rfl cs 32 5 Tryz.underlying51 I1.out C1.out ?_
        quiet_step ((go_at_call 35; exact Ext.call (CH.out _)))
        repeat (go_big_quiet_step (fail))
        refine wpQuiet_nil ?_
        rintro _ ⟨s9, rfl⟩
        go_wp2
        go_roundw
        case measure => simp [intOf]; have := HL.out; omega
        case rel => exact ⟨1, by have := HL.out; omega, by go_num, BR.out.trans (s9.below.mono BR.out.size)⟩
      · have hp1 : (0 : Int) < (k : Int) := by omega
        have cL : ∀ w, Calls Tryz.prog 34 #[.agg (encI t[k - 1]!).toArray, .agg (encI t[k]!).toArray] w fun e w' => e = .returned (.bool true) ∧ Below w.heap.size w w' := fun w => by
          have := iless_any w t[k - 1]! t[k]!
          rw [rises_at HT1.out k hkt (by omega)] at this
          exact this
        have c0 : ∀ w', (∃ s : Ext wr, w' = s.at_) → ∀ j v, (encI t[k - 1]!)[j]? = some v → w'.cell? ((⟨b2, o2 + (k - 1) * 32, none⟩ : Addr).add j) = some v := fun w' ⟨s, hw⟩ => by
          subst hw
          obtain ⟨_, b3, o3, e3, ct3⟩ := src_names (srcI_below T2.out (BR.out.trans (s.below.mono BR.out.size))) (by omega)
          injection e3 with e3
          injection e3 with e4 e5 _
          subst e4; subst e5
          exact at_name (ct3 (k - 1) (by omega))
        have i0 := infoI t[k - 1]!
        have CL := Lib.hid cL
        have C0 := Lib.hid c0
        have I0 := Lib.hid i0
        have kw : wrap64 ((k : Int) - 1) = ((k - 1 : Nat) : Int) := by unfold wrap64; omega
        have kn : 0 < k := by omega
        have kb : ((k - 1 : Nat) : Int) < (m : Int) := by omega
        generalize encI t[k]! = cs at CH C1 I1 CL
        generalize encI t[k - 1]! = cz at CL C0 I0
        clear cH c1 i1 hmem ct hkt htl hk hlt hq0 cL c0 i0 h0
        go_upto_region 9 with fail
        refine wp_region_ext (by kernel_rfl) (by kernel_rfl) ?_
        have hemp := ext_nonempty wr
        repeat (go_big_quiet_step (fail))
        refine wpQuiet_loadA (by rfl) 51 (.tmp 28) rfl ⟨b2, o2 + (k - 1) * 32, none⟩ rfl cz 32 5 Tryz.underlying51 I0.out C0.out ?_
        quiet_step (fail)
        repeat (go_big_quiet_step (fail))
        refine wpQuiet_loadA (by rfl) 51 (.tmp 32) rfl ⟨b2, o2 + k * 32, none⟩ rfl cs 32 5 Tryz.underlying51 I1.out C1.out ?_
        quiet_step ((go_at_call 34; exact Ext.call (CL.out _)))
        repeat (go_big_quiet_step (fail))
        refine wpQuiet_loadA (by rfl) 51 (.tmp 41) rfl ⟨b2, o2 + k * 32, none⟩ rfl cs 32 5 Tryz.underlying51 I1.out C1.out ?_
        quiet_step ((go_at_call 35; exact Ext.call (CH.out _)))
        repeat (go_big_quiet_step (fail))
        refine wpQuiet_nil ?_
        rintro _ ⟨s9, rfl⟩
        go_wp2
        go_roundw
        case measure => simp [intOf]; have := HL.out; omega
        case rel => exact ⟨k + 1, by have := HL.out; omega, by go_num, BR.out.trans (s9.below.mono BR.out.size)⟩
    · have : k = m := by omega
      subst this
      go_wp2
      go_loopw [49] (fun i wr => ∃ j : Nat, j ≤ q ∧ i = .int .i64 j ∧ Below w2.heap.size w2 wr) (fun i _ => q - (intOf i).toNat)
      case atStart => exact ⟨0, by omega, rfl, BR.out⟩
      case round =>
        clear BR
        obtain ⟨j, hj, rfl, hb⟩ := hrel
        have BR := Lib.hid hb
        clear hb
        by_cases hlt : j < q
        · have hjl : j < l.length := by have := LQ.out; omega
          have hmem : l[j]! ∈ t := (HT2.out _).2 (mem_at j hjl)
          have hk0 : 0 < k := by have := EM.out; have := List.length_pos_of_mem hmem; omega
          obtain ⟨_, b3, o3, rfl, ct⟩ := src_names S2.out (by omega)
          have hl1 : (j : Int) < (q : Int) := by omega
          have hm1 : (q : Int) ≤ 20 := by have := HQ.out; omega
          have cH : ∀ w, Below w2.heap.size w2 w → Calls Tryz.prog 35 #[.slice A2 k c2, .agg (encI l[j]!).toArray] w fun e w' => e = .returned (.bool true) ∧ Below w.heap.size w w' := fun w hw => by
            have := ihas_any w A2 k c2 t (srcI_below T2.out hw) (by have := HM.out; omega) hk0 l[j]!
            rw [decide_eq_true hmem] at this
            exact this
          obtain ⟨_, b4, o4, e4, ct4⟩ := src_names (srcI_below S2.out BR.out) (by omega)
          injection e4 with e4
          injection e4 with e5 e6 _
          subst e5; subst e6
          have c1 := at_name (ct4 j hlt)
          have i1 := infoI l[j]!
          generalize encI l[j]! = cs at cH c1 i1
          have CH := Lib.hid cH
          have C1 := Lib.hid c1
          have I1 := Lib.hid i1
          have HK := Lib.hid hk
          have HL := Lib.hid hlt
          clear cH c1 i1 hmem ct ct4 hlt hk0 hjl hk hj
          go_wp2_with (first
            | (refine wpl_loadA rfl 51 (.tmp 55) rfl ⟨b3, o3 + j * 32, none⟩ rfl cs 32 5 Tryz.underlying51 I1.out C1.out ?_)
            | (go_at_call 35; refine (CH.out _ BR.out).mono ?_; rintro e w' ⟨rfl, h2⟩; have H2 := Lib.hid h2; clear h2))
          go_roundw
          case measure => simp [intOf]; have := HL.out; omega
          case rel => exact ⟨j + 1, by have := HL.out; omega, by go_num, BR.out.trans (H2.out.mono BR.out.size)⟩
        · have : j = q := by omega
          subst this
          have hS : ∀ w, Below w2.heap.size w2 w → Calls Tryz.prog 33 #[.slice A2 k c2] w (IdsPost w t) := fun w hw => by
            have := isort_any w A2 k c2 t (srcI_below T2.out hw) (by have := HM.out; omega)
            rw [HTT.out] at this
            exact this
          have CS := Lib.hid hS
          have TT := Lib.hid (show ∀ w, Below w2.heap.size w2 w → Src w 32 A2 k (rowI t) from fun w hw => srcI_below T2.out hw)
          clear hS
          go_wp2_with (first
            | (go_at_call 33; refine (CS.out _ BR.out).mono ?_; rintro e w3 ⟨A3, c3, rfl, h1, h2⟩; rw [← EM.out] at h1; rw [← EM.out]; have T3 := Lib.hid h1; have B3 := Lib.hid (BR.out.trans (h2.mono BR.out.size)); clear h1 h2)
            | (go_at_call 36; refine (ieq_same _ A3 A2 k c3 c2 t T3.out (TT.out _ B3.out) (by have := HM.out; omega)).mono ?_; rintro e _ ⟨rfl, q9, rfl⟩))
          go_ret
          exact ⟨rfl, below_drewN' (L2.out.trans (B3.out.mono L2.out.size)) _⟩
end Go.Proofs.YtmnndehoopmmaaaGreatDoor
