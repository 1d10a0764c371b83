/- TreeOrder: entries that do not rise may not be; sorted, each once, they may: the law's walk. (printed by wip/genTd.py) -/
import Derived.Test.YticcianbphljpaaGreatDoorP19x
import Derived.Test.YticcianbphljpaaGreatDoorP7x
import Derived.Test.YticcianbphljpaaGreatDoorSr
import Derived.Test.YticcianbphljpaaGreatDoorHl
import Derived.Test.YticcianbphljpaaGreatDoorP9x
import Derived.Test.YticcianbphljpaaGreatDoorBn
import Derived.Test.YticcianbphljpaaGreatDoorP17x
import Derived.Test.YticcianbphljpaaGreatDoorLp
import Derived.Test.YticcianbphljpaaGreatDoorP14x
import Derived.Deep.CutBlock
namespace Go.Proofs.YticcianbphljpaaGreatDoor
open Go.RowKit
theorem run_uptoF (w : World) (A : Option Addr) (m c k : Nat) (hk : k ≤ c) :
    (Instr.sliceAt 22 (.slice A m c) none (some (.int .i64 k)) none).run Tryz.prog w = .ok (.slice A k c) w := by
  simp [Instr.sliceAt, Instr.slice, Instr.sliceBounds, Instr.sliceBound, go_sem]
  exact fun h => absurd h (by omega)
theorem run_fromF (w : World) (A : Option Addr) (m c k : Nat) (hk : k ≤ m) (_hc : m ≤ c) :
    (Instr.sliceAt 22 (.slice A m c) (some (.int .i64 k)) none none).run Tryz.prog w = .ok (.slice (if c = k then A else A.map (·.add (k * 34))) (m - k) (c - k)) w := by
  simp [Instr.sliceAt, Instr.slice, Instr.sliceBounds, Instr.sliceBound, go_sem]
  exact fun h => absurd h (by omega)
theorem step_buildE {α : Type} (E : Enc α) {P : Program} {ops : Array Oper} {o : Oper} {a : Act} {w : World} {K : Act → World → Prop} {Q : Exit → Act → World → Prop} {F : Prop} (hgd : Region.wanted o (yielded ops a.tmps) = true) (t e : TypeId) (len : Nat) (parts : List (Nat × Operand)) (ho : o.op = .buildSlice t len parts.toArray) (l : List α) (hl : l.length = len)
    (hp : (parts.map fun (i, x) => (i, a.eval x)) = (l.zipIdx 0).map fun x => (x.2, Value.agg (E.enc x.1).toArray)) (z : Value) (bytes : Nat) (hu : P.underlying t = some (.slice e)) (hinfo : (P.info? e).map (fun i => (i.zero, i.size, i.bytes)) = some (some z, E.k, bytes)) (hs : len * E.k ≤ 16777216) (h0 : 0 < len)
    (h : K (a.put o.dst (.slice (some ⟨w.heap.size, 0, none⟩) len len)) (w.alloc (.cells (E.row l).toArray e))) : if Region.wanted o (yielded ops a.tmps) = true then Oper.wp P o a w K Q else F := by
  rw [if_pos hgd]
  exact wp_buildE E t e len parts ho l hl hp z bytes hu hinfo hs h0 h
theorem step_storeM {P : Program} {ops : Array Oper} {o : Oper} {a : Act} {w : World} {K : Act → World → Prop} {Q : Exit → Act → World → Prop} {F : Prop} (hgd : Region.wanted o (yielded ops a.tmps) = true) (ty : TypeId) (x y : Operand) (ho : o.op = .store ty x y) (b f : Nat) (cs : List Value) (hx : a.eval x = .pointer (some ⟨b, f, none⟩)) (hy : a.eval y = .agg cs.toArray)
    (ht : w.there b f cs.length) (hi : (P.info? ty).map (·.size) = some cs.length) (h1 : ∀ v ∈ cs, v.oneCell' = true) (h : K (a.put o.dst undef) (w.setCells b f cs)) : if Region.wanted o (yielded ops a.tmps) = true then Oper.wp P o a w K Q else F := by
  rw [if_pos hgd]
  exact wp_store_mid ty x y ho b f cs.toArray hx hy (by simpa using ht) (by simpa using hi) (all_oneCell_toArray h1) (by simpa using h)
theorem wrap_small (i : Nat) (h : i ≤ 20) : IntKind.i64.wrap (i : Int) = (i : Int) := by
  simp [IntKind.wrap, IntKind.signed, IntKind.bits]
  omega
set_option maxRecDepth 20000 in
set_option maxHeartbeats 12800000 in
theorem treeOrderLaw_any (W : World) (A : Option Addr) (n c : Nat) (es : List Ent) (ii kk : Int) (hs : Src W 34 A n (entE.row es)) (hc : n ≤ c) (hf : ∀ e ∈ es, e.nm.length ≤ maxLen) (hG : Gl W) (hE : Ge W) :
    Calls Tryz.prog 3 #[.slice A n c, .int .i64 ii, .int .i64 kk] W fun e W' => e = .returned (.bool true) ∧ Below W.heap.size W W' := by
  obtain ⟨q, hq⟩ : ∃ q : Nat, q = min n 20 := ⟨_, rfl⟩
  have hmin : min (n : Int) 20 = (q : Int) := by omega
  have hqc : (q : Int) ≤ (c : Int) := by omega
  obtain ⟨us, hus⟩ : ∃ us, us = es.take q := ⟨_, rfl⟩
  have hsq : ∀ w, Below W.heap.size W w → Src w 34 A q (entE.row us) := fun w hw => by rw [hus]; exact entE.src_take (entE.src_below hs hw) q (by omega)
  have huf : NamesFit us := fun e he => hf e (by rw [hus] at he; exact List.mem_of_mem_take he)
  have hul : us.length = q := by have := entE.src_len hs; rw [hus, List.length_take]; omega
  have cB := begun6_any W hG hE
  have CB := Lib.hid cB
  have SQ := Lib.hid hsq
  have UF := Lib.hid huf
  have UL := Lib.hid hul
  have q20 : q ≤ 20 := by omega
  have Q20 := Lib.hid q20
  clear cB hsq huf hul hus hs hc hf hq hG hE q20
  go_enter Tryz.func3, Tryz.ntmps3
  go_upto_region 6 with (go_at_call 13; refine CB.out.mono ?_; rintro e w1 ⟨rfl, hb⟩; have B1 := Lib.hid hb; clear hb)
  clear CB hmin hqc
  have q20 : (q : Int) ≤ 20 := by have := Q20.out; omega
  go_loopw [8, 21] (fun v i wr => ∃ (j : Nat) (l : List Ent), j ≤ q ∧ i = .int .i64 j ∧ GoodE l ∧ l.length ≤ j ∧ RowQ wr W.heap.size 27 34 v l.length (entE.row l) ∧ Below W.heap.size W wr) (fun _ i _ => q - (intOf i).toNat)
  case atStart => exact ⟨0, [], Nat.zero_le _, rfl, goodE_nil, Nat.le_refl _, RowQ.nil _ _ _ _, B1.out⟩
  case round =>
    obtain ⟨wo, hwo⟩ : ∃ wo, wo = wr := ⟨_, rfl⟩
    subst hwo
    obtain ⟨j, l, hj, rfl, hg, hl, hr, hb⟩ := hrel
    obtain ⟨A1, c1, rfl, hc1, hm1⟩ := hr.shape
    have GE := Lib.hid hg
    have LB := Lib.hid hb
    obtain ⟨m, hm⟩ : ∃ m, m = l.length := ⟨_, rfl⟩
    rw [← hm] at hr hl hc1 ⊢
    have HM := Lib.hid hm
    have LJ := Lib.hid hl
    have HC := Lib.hid hc1
    have RO := Lib.hid hr
    have MB : Hid (m ≤ 20) := Lib.hid (by have := Q20.out; omega)
    by_cases hlt : j < q
    · have j1 : (j : Int) < (q : Int) := by omega
      have JQ := Lib.hid hlt
      obtain ⟨_, bl, ol, rfl, ct⟩ := entE.src_at (SQ.out wo hb) (by omega)
      obtain ⟨e, he⟩ : ∃ e, e = us[j]! := ⟨_, rfl⟩
      have hc2 := entE.at_elem (ct j hlt)
      rw [← he] at hc2
      have C1 : Hid (∀ i v, (encE e)[i]? = some v → wo.cell? ((⟨bl, ol + j * 34, none⟩ : Addr).add i) = some v) := Lib.hid hc2
      have hnm : e.nm.length ≤ maxLen := by rw [he]; exact UF.out _ (by rw [getElem!_pos us j (by rw [UL.out]; exact hlt)]; exact List.getElem_mem _)
      have NM := Lib.hid hnm
      have IE := Lib.hid (infoE e)
      clear hg hb hl hr hc1 hm1 hm hj hlt ct hc2 he hnm
      go_upto_region 8 with (first
        | (refine wpl_loadS rfl 27 (.tmp 23) rfl ⟨bl, ol + j * 34, none⟩ rfl (encE e) Tryz.isAgg27 IE.out C1.out ?_)
        | (refine wpl_storeS rfl 27 (.tmp 10) _ rfl wo.heap.size (encE e) rfl rfl 27 _ (Blk.new wo _ _) IE.out (by rw [show (encE e).length = 34 from entE.len _]; rfl) (entE.one _) ?_))
      generalize hw1 : World.setRow _ _ _ = w2
      have E2 : Hid (Below wo.heap.size wo w2) := Lib.hid (by rw [← hw1]; exact (ent_laid wo e).1)
      have K2 : Hid (Blk w2 wo.heap.size 27 (encE e)) := Lib.hid (by rw [← hw1]; exact (ent_laid wo e).2)
      have R2 := Lib.hid (RO.out.below E2.out)
      have L2 := Lib.hid (LB.out.trans (E2.out.mono LB.out.size))
      clear hw1 C1 RO LB E2 B1
      generalize wo.heap.size = ge at K2 ⊢
      obtain ⟨en, hen⟩ : ∃ en : ByteArray, en = ⟨e.nm.toArray⟩ := ⟨_, rfl⟩
      have hel : en.toList = e.nm := by rw [hen, ByteArray.toList_eq]
      have EL := Lib.hid hel
      have EZ : Hid (en.size ≤ 9223372036854775807) := Lib.hid (by rw [hen, ba_size]; have := NM.out; unfold maxLen at this; show e.nm.length ≤ _; omega)
      have KN : Hid (∀ w, Below w2.heap.size w2 w → w.cell? ⟨ge, 0, none⟩ = some (.string en)) := Lib.hid fun w hw => by rw [hen]; exact (K2.out.below hw).cell 0 _ rfl
      have KL : Hid (∀ t, t < m → ∃ b1 o1, A1 = some ⟨b1, o1, none⟩ ∧ ∀ w, Below w2.heap.size w2 w → w.cell? ⟨b1, o1 + t * 34, none⟩ = some (.string ⟨l[t]!.nm.toArray⟩)) := Lib.hid fun t ht => by
        obtain ⟨_, b1, o1, rfl, _⟩ := entE.src_at (R2.out.src (entE.row_one _)) (by omega)
        refine ⟨b1, o1, rfl, fun w hw => ?_⟩
        obtain ⟨_, b3, o3, e3, ct3⟩ := entE.src_at ((R2.out.below hw).src (entE.row_one _)) (by omega)
        injection e3 with e3
        injection e3 with e4 e5 _
        subst e4; subst e5
        exact ct3 t ht 0 _ rfl
      clear hen hel
      have m20 : (m : Int) ≤ 20 := by have := MB.out; omega
      go_upto_block 2 with fail
      go_cut [11] (fun kv wx => ∃ t : Nat, t ≤ m ∧ kv = .int .i64 t ∧ Below w2.heap.size w2 wx ∧ (∀ s, s < t → Op.bytesLess l[s]!.nm e.nm = true) ∧ (t < m → Op.bytesLess l[t]!.nm e.nm = false))
      case first =>
        as_aux_lemma =>
          go_wp2_with fail
          go_loopw [11] (fun kv wr => ∃ t : Nat, t ≤ m ∧ kv = .int .i64 t ∧ Below w2.heap.size w2 wr ∧ ∀ s, s < t → Op.bytesLess l[s]!.nm e.nm = true) (fun kv _ => m - (intOf kv).toNat)
          case atStart => exact ⟨0, Nat.zero_le _, rfl, Below.refl _ _, fun s h => absurd h (Nat.not_lt_zero s)⟩
          case round =>
            obtain ⟨t, ht, rfl, hbt, hall⟩ := hrel
            have BT := Lib.hid hbt
            have HA := Lib.hid hall
            have hemp := ext_nonempty wr
            by_cases hlt : t < m
            · have t1 : (t : Int) < (m : Int) := by omega
              obtain ⟨b1, o1, rfl, hcell⟩ := KL.out t hlt
              obtain ⟨tn, htn⟩ : ∃ tn : ByteArray, tn = ⟨l[t]!.nm.toArray⟩ := ⟨_, rfl⟩
              have x1 : ∀ s : Ext wr, s.at_.cell? ⟨b1, o1 + t * 34, none⟩ = some (.string tn) := fun s => by rw [htn]; exact hcell _ (BT.out.trans (s.below.mono BT.out.size))
              have x2 : ∀ s : Ext wr, s.at_.cell? ⟨ge, 0, none⟩ = some (.string en) := fun s => KN.out _ (BT.out.trans (s.below.mono BT.out.size))
              obtain ⟨b, hb⟩ : ∃ b, Op.bytesLess tn.toList en.toList = b := ⟨_, rfl⟩
              have hbe : Op.bytesLess l[t]!.nm e.nm = b := by rw [← hb, EL.out, htn, ByteArray.toList_eq]
              have HBE := Lib.hid hbe
              have TL := Lib.hid hlt
              clear hcell htn hbe hall hbt ht hlt
              go_upto_region 9 with fail
              refine wp_region_ext (by kernel_rfl) (by kernel_rfl) ?_
              repeat (go_big_quiet_step (fail))
              refine wpQuiet_nil ?_
              rintro _ ⟨s9, rfl⟩
              cases b
              · go_wp2
                go_meet
                exact ⟨t, by have := TL.out; omega, rfl, BT.out.trans (s9.below.mono BT.out.size), HA.out, fun _ => HBE.out⟩
              · go_wp2
                go_roundw
                case measure => simp [intOf]; have := TL.out; omega
                case rel => exact ⟨t + 1, TL.out, by go_num, BT.out.trans (s9.below.mono BT.out.size), fun s hs => by
                  rcases Nat.lt_or_ge s t with h | h
                  · exact HA.out s h
                  · rw [show s = t by omega]; exact HBE.out⟩
            · have t1 : ¬ ((t : Int) < (m : Int)) := by omega
              have htm : t = m := by omega
              have TE := Lib.hid htm
              clear hall hbt ht hlt htm
              go_upto_region 9 with fail
              refine wp_region_ext (by kernel_rfl) (by kernel_rfl) ?_
              repeat (go_big_quiet_step (fail))
              refine wpQuiet_nil ?_
              rintro _ ⟨s9, rfl⟩
              go_wp2
              go_meet
              exact ⟨t, Nat.le_of_eq TE.out, rfl, BT.out.trans (s9.below.mono BT.out.size), HA.out, fun h => absurd h (by rw [TE.out]; exact Nat.lt_irrefl _)⟩
      case rest =>
        obtain ⟨t, ht, rfl, hbt, hall, hge⟩ := hcut
        have BT := Lib.hid hbt
        have TM := Lib.hid ht
        have TB : Hid (t ≤ 20) := Lib.hid (by have := MB.out; omega)
        obtain ⟨r, hr⟩ : ∃ r, r = (nameB e.nm && (decide (t = m) || !decide (l[t]!.nm = e.nm))) := ⟨_, rfl⟩
        have HRR := Lib.hid hr
        have GI : Hid (r = true → GoodE (insE l t e)) := Lib.hid fun h => by
          rw [hr, Bool.and_eq_true] at h
          refine goodE_ins GE.out t e (by rw [← HM.out]; exact ht) h.1 hall fun hlt => ?_
          rw [← HM.out] at hlt
          refine ⟨hge hlt, fun heq => ?_⟩
          have h2 := h.2
          rw [decide_eq_false (by omega), decide_eq_true heq] at h2
          cases h2
        have cN := fun w => refName_any w en e.nm (by rw [← EL.out, ByteArray.toList_eq]) EZ.out
        have CN := Lib.hid cN
        clear hr hall hge hbt ht cN
        go_upto_region 11 with fail
        go_cut [59] (fun v wx => v = .bool r ∧ Below w2.heap.size w2 wx)
        case first =>
          have hemp := ext_nonempty wc
          have x2 : ∀ s : Ext wc, s.at_.cell? ⟨ge, 0, none⟩ = some (.string en) := fun s => KN.out _ (BT.out.trans (s.below.mono BT.out.size))
          have CN2 : Hid (∀ s : Ext wc, Calls Tryz.prog 14 #[.string en] s.at_ fun e' w' => e' = .returned (.bool (nameB e.nm)) ∧ Below s.at_.heap.size s.at_ w') := Lib.hid fun s => (CN.out s.at_).mono fun _ _ ⟨h1, h2⟩ => ⟨h1, by rw [h2]; exact Below.refl _ _⟩
          obtain ⟨nb, hnb⟩ : ∃ nb, nb = nameB e.nm := ⟨_, rfl⟩
          have HR2 : Hid (r = (nb && (decide (t = m) || !decide (l[t]!.nm = e.nm)))) := Lib.hid (by rw [hnb]; exact HRR.out)
          have CN3 := CN2.out
          rw [← hnb] at CN3
          have CN4 := Lib.hid CN3
          clear CN2 CN3 hnb CN
          by_cases hlt : t < m
          · have t1 : ((t : Int) == (m : Int)) = false := by simp; omega
            have t3 : ¬ ((t : Int) = (m : Int)) := by omega
            have t2 : (t : Int) < (m : Int) := by omega
            obtain ⟨b1, o1, rfl, hcell⟩ := KL.out t hlt
            obtain ⟨tn, htn⟩ : ∃ tn : ByteArray, tn = ⟨l[t]!.nm.toArray⟩ := ⟨_, rfl⟩
            have x1 : ∀ s : Ext wc, s.at_.cell? ⟨b1, o1 + t * 34, none⟩ = some (.string tn) := fun s => by rw [htn]; exact hcell _ (BT.out.trans (s.below.mono BT.out.size))
            obtain ⟨eqb, heqb⟩ : ∃ b, b = decide (l[t]!.nm = e.nm) := ⟨_, rfl⟩
            have h1 : (tn.toList == en.toList) = eqb := by
              rw [EL.out, htn, ByteArray.toList_eq, heqb]
              by_cases h : l[t]!.nm = e.nm
              · rw [decide_eq_true h, h]; exact beq_self_eq_true _
              · rw [decide_eq_false h]; exact beq_eq_false_iff_ne.2 h
            have h2 : (tn.toList != en.toList) = !eqb := by rw [bne, h1]
            have HR3 : Hid (r = (nb && !eqb)) := Lib.hid (by rw [HR2.out, decide_eq_false (by omega), heqb]; rfl)
            clear hcell htn heqb HR2 hlt
            cases nb <;> cases eqb
            all_goals
              have HR4 := Lib.hid (show r = _ from HR3.out)
              refine wp_region_ext (by kernel_rfl) (by kernel_rfl) ?_
              repeat (go_big_quiet_step ((go_at_call 14; exact Ext.call (CN4.out _))))
              refine wpQuiet_nil ?_
              rintro _ ⟨s9, rfl⟩
              go_wp2
              go_meet
              exact ⟨by first | (rw [HR4.out]; done) | (rw [HR4.out]; rfl), BT.out.trans (s9.below.mono BT.out.size)⟩
          · have htm : t = m := by have := TM.out; omega
            have HR3 : Hid (r = nb) := Lib.hid (by rw [HR2.out, decide_eq_true htm, Bool.true_or, Bool.and_true])
            have t1 : ((t : Int) == (m : Int)) = true := by rw [htm]; exact beq_self_eq_true _
            have t3 : (t : Int) = (m : Int) := by rw [htm]
            clear HR2 hlt htm
            cases nb
            all_goals
              have HR4 := Lib.hid (show r = _ from HR3.out)
              refine wp_region_ext (by kernel_rfl) (by kernel_rfl) ?_
              repeat (go_big_quiet_step ((go_at_call 14; exact Ext.call (CN4.out _))))
              refine wpQuiet_nil ?_
              rintro _ ⟨s9, rfl⟩
              go_wp2
              go_meet
              exact ⟨by first | (rw [HR4.out]; done) | (rw [HR4.out]; rfl), BT.out.trans (s9.below.mono BT.out.size)⟩
        case rest =>
          obtain ⟨rfl, hbc⟩ := hcut
          have BC := Lib.hid hbc
          have KC := Lib.hid (K2.out.below hbc)
          have RC := Lib.hid (R2.out.below hbc)
          have LC := Lib.hid (L2.out.trans (hbc.mono L2.out.size))
          clear hbc BT KN KL K2 R2 L2 CN HRR NM EL EZ
          cases r
          · clear GI
            as_aux_lemma =>
              go_wp2
              go_roundw
              case measure => simp [intOf]; have := JQ.out; omega
              case rel => exact ⟨j + 1, l, JQ.out, by go_num, GE.out, by have := LJ.out; rw [← HM.out]; omega, by rw [← HM.out]; exact RC.out, LC.out⟩
          · have GI2 := Lib.hid (GI.out rfl)
            clear GI
            have GI := GI2
            as_aux_lemma =>
              go_upto_region 12 with fail
              refine wp_region_any (by kernel_rfl) ?_
              change wpAny _ _ _ _ _ _ _ (World.drew _)
              have XS : Hid (Blk wc.drew ge 27 (encE e)) := Lib.hid (KC.out.drew)
              have R0 : Hid (RowQ wc.drew W.heap.size 27 34 (.slice A1 m c1) m (entE.row l)) := Lib.hid RC.out.drew
              have LV : Hid (Below W.heap.size W wc.drew) := Lib.hid LC.out.drew
              generalize World.drew wc = v0 at XS R0 LV ⊢
              have sl1 := fun w => run_uptoF w A1 m c1 t (by have := HC.out; have := TM.out; omega)
              have sl2 := fun w => run_fromF w A1 m c1 t TM.out HC.out
              clear KC RC LC BC
              refine wpAny_bare [0, 1, 2, 7, 8, 9] 6 (by rfl) (by kernel_rfl) (fun _ _ _ d _ h => by cases d <;> exact h) ?_
              simp only [bareO, List.filterMap_cons, List.filterMap_nil, List.getElem?_toArray, List.getElem?_cons_succ, List.getElem?_cons_zero]
              repeat (first | quiet_step (fail) | go_big_quiet_step (fail))
              refine wpQuiet_nil ?_
              clear sl1 sl2
              refine wpAny_of_held (S := fun w' => Blk w' ge 27 (encE e)) _ _ _ _ ?_
              refine wpAnyH_take (i := 4) rfl (by kernel_rfl) (by kernel_rfl) (by kernel_rfl) (fun _ _ _ h => h) (yi_loadS (by rfl) 27 (.tmp 10) rfl ⟨ge, 0, none⟩ rfl (encE e) Tryz.isAgg27 IE.out (fun w hw j u hu => by rw [addr_row _ rfl, Nat.zero_add]; exact hw.cell j u hu)) XS.out ?_
              go_simp
              refine wpAnyH_ready (rs := [3, 5]) (by kernel_rfl) (by simp) ?_
              refine (AllReadyH.cons rfl (fun K hK => ?_) (AllReadyH.cons rfl (fun K hK => ?_) AllReadyH.nil))
              · skip
                refine step_append_Q rfl (.const (.slice none 0 0)) (.tmp 62) 22 rfl v0.heap.size 27 (.agg zeroE.toArray) 34 56 Tryz.underlying22 (by kernel_rfl) rfl (by decide) (.slice none 0 0) 0 [] rfl (RowQ.nil _ _ _ _) A1 t c1 (entE.row (l.take t)) rfl (entE.src_take (R0.out.src (entE.row_one _)) t TM.out) (by have := TB.out; omega) (by have := TB.out; omega) (Nat.le_refl _) ?_
                intro v3 w3 hr3 hg3 _
                rw [Nat.zero_add, List.nil_append] at hr3
                obtain ⟨A3, c3, rfl, _, _⟩ := hr3.shape
                have R3 := Lib.hid hr3
                have B3 := Lib.hid (grown_nil hg3)
                have X3 := Lib.hid (XS.out.below B3.out)
                clear hr3 hg3
                refine hK.out _ _ (X3.out) (fun _ => ?_)
                clear hK K
                go_simp
                refine wpAnyH_ready (rs := [5]) (by kernel_rfl) (by simp) ?_
                refine (AllReadyH.cons rfl (fun K hK => ?_) AllReadyH.nil)
                refine step_buildE entE (by rfl) 22 27 1 [(0, .tmp 64)] rfl [e] rfl rfl (.agg zeroE.toArray) 56 Tryz.underlying22 (by kernel_rfl) (by decide) (by decide) ?_
                have S4 := Lib.hid (row_src entE w3 27 [e])
                have R4 := Lib.hid (R3.out.alloc (.cells (entE.row [e]).toArray 27))
                have B4 := Lib.hid (B3.out.alloc B3.out.size (.cells (entE.row [e]).toArray 27))
                have X4 := Lib.hid (XS.out.below B4.out)
                generalize w3.heap.size = gb at S4 ⊢
                generalize World.alloc w3 (.cells (entE.row [e]).toArray 27) = w4 at S4 R4 B4 X4 ⊢
                refine hK.out _ _ (X4.out) (fun _ => ?_)
                clear hK K
                go_simp
                refine wpAnyH_ready (rs := [6]) (by kernel_rfl) (by simp) ?_
                refine AllReadyH.cons rfl (fun K hK => ?_) AllReadyH.nil
                refine step_append_Q rfl (.tmp 63) (.tmp 65) 22 rfl v0.heap.size 27 (.agg zeroE.toArray) 34 56 Tryz.underlying22 (by kernel_rfl) rfl (by decide) (.slice A3 t c3) t (entE.row (l.take t)) rfl R4.out (some ⟨gb, 0, none⟩) 1 1 (entE.row [e]) rfl S4.out (by have := TB.out; omega) (by have := TB.out; omega) B4.out.size ?_
                intro v5 w5 hr5 hg5 _
                obtain ⟨A5, c5, rfl, _, _⟩ := hr5.shape
                have R5 := Lib.hid hr5
                have B5 := Lib.hid (B4.out.grown hg5 B4.out.size (fun k e => (R4.out.lt k e).1))
                have X5 := Lib.hid (XS.out.below B5.out)
                clear hr5 hg5
                refine hK.out _ _ (X5.out) (fun _ => ?_)
                clear hK K
                go_simp
                refine wpAnyH_ready (rs := [10]) (by kernel_rfl) (by simp) ?_
                refine AllReadyH.cons rfl (fun K hK => ?_) AllReadyH.nil
                refine step_append_Q rfl (.tmp 66) (.tmp 69) 22 rfl v0.heap.size 27 (.agg zeroE.toArray) 34 56 Tryz.underlying22 (by kernel_rfl) rfl (by decide) (.slice A5 (t + 1) c5) (t + 1) (entE.row (l.take t) ++ entE.row [e]) rfl R5.out (if c1 = t then A1 else A1.map (·.add (t * 34))) (m - t) (c1 - t) (entE.row (l.drop t)) rfl (entE.row_mid (R0.out.below B5.out) t TM.out) (by have := TB.out; have := TM.out; have := MB.out; omega) (by have := TB.out; have := TM.out; have := MB.out; omega) B5.out.size ?_
                intro v6 w6 hr6 hg6 _
                have R6 := Lib.hid hr6
                have B6 := Lib.hid (B5.out.grown hg6 B5.out.size (fun k e => (R5.out.lt k e).1))
                have X6 := Lib.hid (XS.out.below B6.out)
                clear hr6 hg6
                refine hK.out _ _ (X6.out) (fun _ => ?_)
                clear hK K
                go_simp
                refine wpAnyH_ready (rs := [11]) (by kernel_rfl) (by simp) ?_
                refine AllReadyH.cons rfl (fun K hK => ?_) AllReadyH.nil
                go_simp
                refine hK.out _ _ (X6.out) (fun _ => ?_)
                clear hK K
                go_simp
                refine wpAnyH_done (by kernel_rfl) ?_ _
                go_wp2
                go_roundw
                case measure => simp [intOf]; have := JQ.out; omega
                case rel =>
                  have hml : m = l.length := HM.out
                  refine ⟨j + 1, insE l t e, JQ.out, by go_num, GI.out, by rw [insE_len]; have := LJ.out; omega, ?_, LV.out.trans (B6.out.mono LV.out.size)⟩
                  have e1 : (insE l t e).length = t + 1 + (m - t) := by rw [insE_len]; have := TM.out; omega
                  rw [e1]
                  unfold insE
                  rw [entE.row_append, entE.row_append]
                  exact R6.out.mono LV.out.size
              · skip
                refine step_buildE entE (by rfl) 22 27 1 [(0, .tmp 64)] rfl [e] rfl rfl (.agg zeroE.toArray) 56 Tryz.underlying22 (by kernel_rfl) (by decide) (by decide) ?_
                have S3 := Lib.hid (row_src entE v0 27 [e])
                have B3 := Lib.hid ((Below.refl v0.heap.size v0).alloc (Nat.le_refl _) (.cells (entE.row [e]).toArray 27))
                have X3 := Lib.hid (XS.out.below B3.out)
                have Q3 := Lib.hid (R0.out.below B3.out)
                obtain ⟨gb, hgb⟩ : ∃ gb, gb = v0.heap.size := ⟨_, rfl⟩
                rw [← hgb] at S3
                change Shut _ at hK
                rw [← hgb]
                clear hgb
                generalize World.alloc v0 (.cells (entE.row [e]).toArray 27) = w3 at S3 B3 X3 Q3 ⊢
                refine hK.out _ _ (X3.out) (fun _ => ?_)
                clear hK K
                go_simp
                refine wpAnyH_ready (rs := [3]) (by kernel_rfl) (by simp) ?_
                refine (AllReadyH.cons rfl (fun K hK => ?_) AllReadyH.nil)
                refine step_append_Q rfl (.const (.slice none 0 0)) (.tmp 62) 22 rfl v0.heap.size 27 (.agg zeroE.toArray) 34 56 Tryz.underlying22 (by kernel_rfl) rfl (by decide) (.slice none 0 0) 0 [] rfl (RowQ.nil _ _ _ _) A1 t c1 (entE.row (l.take t)) rfl (entE.src_take (Q3.out.src (entE.row_one _)) t TM.out) (by have := TB.out; omega) (by have := TB.out; omega) (B3.out.size) ?_
                intro v3 w4 hr3 hg3 _
                rw [Nat.zero_add, List.nil_append] at hr3
                obtain ⟨A3, c3, rfl, _, _⟩ := hr3.shape
                have R3 := Lib.hid hr3
                have C4 := Lib.hid (grown_nil hg3)
                have B4 := Lib.hid (B3.out.trans (C4.out.mono B3.out.size))
                have X4 := Lib.hid (XS.out.below B4.out)
                have S4 := Lib.hid (entE.src_below S3.out C4.out)
                clear hr3 hg3
                refine hK.out _ _ (X4.out) (fun _ => ?_)
                clear hK K
                go_simp
                refine wpAnyH_ready (rs := [6]) (by kernel_rfl) (by simp) ?_
                refine AllReadyH.cons rfl (fun K hK => ?_) AllReadyH.nil
                refine step_append_Q rfl (.tmp 63) (.tmp 65) 22 rfl v0.heap.size 27 (.agg zeroE.toArray) 34 56 Tryz.underlying22 (by kernel_rfl) rfl (by decide) (.slice A3 t c3) t (entE.row (l.take t)) rfl R3.out (some ⟨gb, 0, none⟩) 1 1 (entE.row [e]) rfl S4.out (by have := TB.out; omega) (by have := TB.out; omega) B4.out.size ?_
                intro v5 w5 hr5 hg5 _
                obtain ⟨A5, c5, rfl, _, _⟩ := hr5.shape
                have R5 := Lib.hid hr5
                have B5 := Lib.hid (B4.out.grown hg5 B4.out.size (fun k e => (R3.out.lt k e).1))
                have X5 := Lib.hid (XS.out.below B5.out)
                clear hr5 hg5
                refine hK.out _ _ (X5.out) (fun _ => ?_)
                clear hK K
                go_simp
                refine wpAnyH_ready (rs := [10]) (by kernel_rfl) (by simp) ?_
                refine AllReadyH.cons rfl (fun K hK => ?_) AllReadyH.nil
                refine step_append_Q rfl (.tmp 66) (.tmp 69) 22 rfl v0.heap.size 27 (.agg zeroE.toArray) 34 56 Tryz.underlying22 (by kernel_rfl) rfl (by decide) (.slice A5 (t + 1) c5) (t + 1) (entE.row (l.take t) ++ entE.row [e]) rfl R5.out (if c1 = t then A1 else A1.map (·.add (t * 34))) (m - t) (c1 - t) (entE.row (l.drop t)) rfl (entE.row_mid (R0.out.below B5.out) t TM.out) (by have := TB.out; have := TM.out; have := MB.out; omega) (by have := TB.out; have := TM.out; have := MB.out; omega) B5.out.size ?_
                intro v6 w6 hr6 hg6 _
                have R6 := Lib.hid hr6
                have B6 := Lib.hid (B5.out.grown hg6 B5.out.size (fun k e => (R5.out.lt k e).1))
                have X6 := Lib.hid (XS.out.below B6.out)
                clear hr6 hg6
                refine hK.out _ _ (X6.out) (fun _ => ?_)
                clear hK K
                go_simp
                refine wpAnyH_ready (rs := [11]) (by kernel_rfl) (by simp) ?_
                refine AllReadyH.cons rfl (fun K hK => ?_) AllReadyH.nil
                go_simp
                refine hK.out _ _ (X6.out) (fun _ => ?_)
                clear hK K
                go_simp
                refine wpAnyH_done (by kernel_rfl) ?_ _
                go_wp2
                go_roundw
                case measure => simp [intOf]; have := JQ.out; omega
                case rel =>
                  have hml : m = l.length := HM.out
                  refine ⟨j + 1, insE l t e, JQ.out, by go_num, GI.out, by rw [insE_len]; have := LJ.out; omega, ?_, LV.out.trans (B6.out.mono LV.out.size)⟩
                  have e1 : (insE l t e).length = t + 1 + (m - t) := by rw [insE_len]; have := TM.out; omega
                  rw [e1]
                  unfold insE
                  rw [entE.row_append, entE.row_append]
                  exact R6.out.mono LV.out.size
    · have hjq : j = q := by omega
      have j1 : ¬ ((j : Int) < (q : Int)) := by omega
      have m20 : m ≤ 20 := by have := Q20.out; omega
      have hgm : mayT l = true := by rw [goodE_may hg, decide_eq_true (by rw [← hm]; exact m20)]
      have NF : Hid (NamesFit l) := Lib.hid fun y hy => by have := nameB_len (mayT_mem hgm y hy); unfold maxLen; omega
      have CM : Hid (∀ w, Below wo.heap.size wo w → Calls Tryz.prog 15 #[.slice A1 m c1] w fun e W' => e = .returned (.bool true) ∧ Below w.heap.size w W') := Lib.hid fun w hw => by
        have h := treeMay_any w A1 m c1 l ((RO.out.below hw).src (entE.row_one _)) (by omega) NF.out
        rw [hgm] at h
        exact h
      have M20 := Lib.hid m20
      clear hg hb hl hr hc1 hm hj hlt hjq hgm m20 SQ UF UL
      go_upto_region 14 with fail
      by_cases m2 : (m : Int) < 2
      · as_aux_lemma =>
          go_upto_region 15 with (go_at_call 15; refine (CM.out _ (Below.refl _ _)).mono ?_; rintro e w1 ⟨rfl, hb⟩; have B1 := Lib.hid hb; clear hb)
          go_wp2_with (go_at_call 15; refine (CM.out _ B1.out).mono ?_; rintro e w2 ⟨rfl, hb⟩; have B2 := Lib.hid hb; clear hb)
          go_ret
          exact ⟨rfl, LB.out.trans ((B1.out.trans (B2.out.mono B1.out.size)).mono LB.out.size)⟩
      · by_cases i0 : ii < 0
        · as_aux_lemma =>
            go_upto_region 15 with (go_at_call 15; refine (CM.out _ (Below.refl _ _)).mono ?_; rintro e w1 ⟨rfl, hb⟩; have B1 := Lib.hid hb; clear hb)
            go_wp2_with (go_at_call 15; refine (CM.out _ B1.out).mono ?_; rintro e w2 ⟨rfl, hb⟩; have B2 := Lib.hid hb; clear hb)
            go_ret
            exact ⟨rfl, LB.out.trans ((B1.out.trans (B2.out.mono B1.out.size)).mono LB.out.size)⟩
        · by_cases k0 : kk < 0
          · as_aux_lemma =>
              go_upto_region 15 with (go_at_call 15; refine (CM.out _ (Below.refl _ _)).mono ?_; rintro e w1 ⟨rfl, hb⟩; have B1 := Lib.hid hb; clear hb)
              go_wp2_with (go_at_call 15; refine (CM.out _ B1.out).mono ?_; rintro e w2 ⟨rfl, hb⟩; have B2 := Lib.hid hb; clear hb)
              go_ret
              exact ⟨rfl, LB.out.trans ((B1.out.trans (B2.out.mono B1.out.size)).mono LB.out.size)⟩
          · go_upto_region 16 with (go_at_call 15; refine (CM.out _ (Below.refl _ _)).mono ?_; rintro e w1 ⟨rfl, hb⟩; have B1 := Lib.hid hb; clear hb)
            obtain ⟨i, hi⟩ : ∃ i : Nat, ii % (m : Int) = (i : Int) := ⟨(ii % (m : Int)).toNat, by have := Int.emod_nonneg ii (show (m : Int) ≠ 0 by omega); omega⟩
            obtain ⟨k, hk⟩ : ∃ k : Nat, kk % (m : Int) = (k : Int) := ⟨(kk % (m : Int)).toNat, by have := Int.emod_nonneg kk (show (m : Int) ≠ 0 by omega); omega⟩
            have him : (i : Int) < (m : Int) := by have := Int.emod_lt_of_pos ii (show (0 : Int) < (m : Int) by omega); omega
            have hkm : (k : Int) < (m : Int) := by have := Int.emod_lt_of_pos kk (show (0 : Int) < (m : Int) by omega); omega
            have hit : ii.tmod (m : Int) = (i : Int) := by rw [Int.tmod_eq_emod_of_nonneg (by omega)]; exact hi
            have hkt : kk.tmod (m : Int) = (k : Int) := by rw [Int.tmod_eq_emod_of_nonneg (by omega)]; exact hk
            have hnz : ¬ (m : Int) = 0 := by omega
            have i20 : i ≤ 20 := by have := M20.out; omega
            have k20 : k ≤ 20 := by have := M20.out; omega
            have hm0 : 0 < m := by omega
            have IM : Hid (i < m) := Lib.hid (by omega)
            have KM : Hid (k < m) := Lib.hid (by omega)
            have iw : wrap64 (i : Int) = (i : Int) := by have := M20.out; unfold wrap64; omega
            have kw : wrap64 (k : Int) = (k : Int) := by have := M20.out; unfold wrap64; omega
            have iw2 := wrap_small i i20
            have kw2 := wrap_small k k20
            clear hi hk i0 k0 m2
            obtain ⟨_, b1, o1, rfl, _⟩ := entE.src_at (RO.out.src (entE.row_one _)) hm0
            clear hm0 i20 k20
            have RA := Lib.hid (RO.out.below B1.out)
            have LA := Lib.hid (LB.out.trans (B1.out.mono LB.out.size))
            have hemp := ext_nonempty w1
            refine wp_region_ext (by kernel_rfl) (by kernel_rfl) ?_
            repeat (go_big_quiet_step (fail))
            refine wpQuiet_nil ?_
            rintro _ ⟨s9, rfl⟩
            clear hemp
            go_upto_region 17 with fail
            have RB := Lib.hid (RA.out.below s9.below)
            have L9 := Lib.hid (LA.out.trans (s9.below.mono LA.out.size))
            refine wp_region_any (by kernel_rfl) ?_
            change wpAny _ _ _ _ _ _ _ (World.drew _)
            have R0 : Hid (RowQ (World.drew s9.at_) W.heap.size 27 34 (.slice (some ⟨b1, o1, none⟩) m c1) m (entE.row l)) := Lib.hid RB.out.drew
            have L0 : Hid (Below W.heap.size W (World.drew s9.at_)) := Lib.hid L9.out.drew
            clear RA LA RB L9 CM RO LB iw kw iw2 kw2 hit hkt hnz
            generalize World.drew s9.at_ = v0 at R0 L0 ⊢
            have CI : Hid (∀ t, t < m → ∀ i v, (encE l[t]!)[i]? = some v → v0.cell? ((⟨b1, o1 + t * 34, none⟩ : Addr).add i) = some v) := Lib.hid fun t ht => by
              obtain ⟨_, b3, o3, e3, ct3⟩ := entE.src_at (R0.out.src (entE.row_one _)) (Nat.lt_of_le_of_lt (Nat.zero_le _) ht)
              injection e3 with e3
              injection e3 with e4 e5 _
              subst e4; subst e5
              exact entE.at_elem (ct3 t ht)
            have BG : Hid (W.heap.size ≤ b1) := Lib.hid (R0.out.lt b1 rfl).1
            have SM : Hid (mayT ((l.set i l[k]!).set k l[i]!) = decide (i = k)) := Lib.hid (swap_may GE.out (by rw [← HM.out]; exact M20.out) i k (by rw [← HM.out]; exact IM.out) (by rw [← HM.out]; exact KM.out))
            have NF2 : Hid (NamesFit ((l.set i l[k]!).set k l[i]!)) := Lib.hid fun y hy => by
              have h1 : ∀ t, t < m → (l[t]!).nm.length ≤ maxLen := fun t ht => by
                rw [HM.out] at ht
                rw [getElem!_pos l t ht]
                exact NF.out _ (List.getElem_mem ht)
              rcases List.mem_or_eq_of_mem_set hy with h | rfl
              · rcases List.mem_or_eq_of_mem_set h with h | rfl
                · exact NF.out _ h
                · exact h1 k KM.out
              · exact h1 i IM.out
            have CI1 := CI.out i IM.out
            have CK1 := CI.out k KM.out
            obtain ⟨x, hx⟩ : ∃ x, x = l[i]! := ⟨_, rfl⟩
            obtain ⟨y, hy⟩ : ∃ y, y = l[k]! := ⟨_, rfl⟩
            rw [← hx] at CI1 SM NF2
            rw [← hy] at CK1 SM NF2
            have CI2 := Lib.hid CI1
            have CK2 := Lib.hid CK1
            clear hx hy CI1 CK1 CI NF GE
            refine wpAny_bare [0, 1, 2, 3, 4, 5, 6, 8, 9, 10] 6 (by rfl) (by kernel_rfl) (fun _ _ _ d _ h => by cases d <;> exact h) ?_
            simp only [bareO, List.filterMap_cons, List.filterMap_nil, List.getElem?_toArray, List.getElem?_cons_succ, List.getElem?_cons_zero]
            repeat (first | quiet_step (fail) | go_big_quiet_step (fail))
            refine wpQuiet_nil ?_
            refine wpAny_ready (rs := [7, 11]) (by kernel_rfl) (by simp) ?_
            refine (AllReady.cons rfl (fun K hK => ?_) (AllReady.cons rfl (fun K hK => ?_) AllReady.nil))
            · skip
              refine step_loadI (by rfl) 27 (.tmp 104) rfl ⟨b1, o1 + k * 34, none⟩ rfl (encE y) (Tryz.isAgg27 _) (infoE _) CK2.out ?_
              refine hK _ _ ?_
              clear hK K
              go_simp
              refine wpAny_ready (rs := [11]) (by kernel_rfl) (by simp) ?_
              refine (AllReady.cons rfl (fun K hK => ?_) AllReady.nil)
              refine step_loadI (by rfl) 27 (.tmp 108) rfl ⟨b1, o1 + i * 34, none⟩ rfl (encE x) (Tryz.isAgg27 _) (infoE _) CI2.out ?_
              refine hK _ _ ?_
              clear hK K
              go_simp
              refine wpAny_ready (rs := [12]) (by kernel_rfl) (by simp) ?_
              refine (AllReady.cons rfl (fun K hK => ?_) AllReady.nil)
              go_simp
              refine hK _ _ ?_
              clear hK K
              go_simp
              refine wpAny_ready (rs := [13]) (by kernel_rfl) (by simp) ?_
              refine (AllReady.cons rfl (fun K hK => ?_) AllReady.nil)
              refine step_storeM (by rfl) 27 (.tmp 110) (.tmp 105) rfl b1 (o1 + i * 34) (encE y) rfl rfl (by rw [show (encE y).length = 34 from entE.len _]; exact entE.row_there R0.out i IM.out) (infoE _) (entE.one _) ?_
              have R1 : Hid (RowQ (v0.setCells b1 (o1 + i * 34) (encE y)) W.heap.size 27 34 (.slice (some ⟨b1, o1, none⟩) m c1) m (entE.row (l.set i y))) := Lib.hid (entE.row_store R0.out (Nat.succ_pos 33) i IM.out y (entE.len _))
              have L1 := Lib.hid (below_setCells' L0.out b1 (o1 + i * 34) (encE y) BG.out)
              generalize World.setCells v0 b1 (o1 + i * 34) (encE y) = v1 at R1 L1 ⊢
              refine hK _ _ ?_
              clear hK K
              go_simp
              refine wpAny_ready (rs := [14]) (by kernel_rfl) (by simp) ?_
              refine (AllReady.cons rfl (fun K hK => ?_) AllReady.nil)
              go_simp
              refine hK _ _ ?_
              clear hK K
              go_simp
              refine wpAny_ready (rs := [15]) (by kernel_rfl) (by simp) ?_
              refine (AllReady.cons rfl (fun K hK => ?_) AllReady.nil)
              refine step_storeM (by rfl) 27 (.tmp 111) (.tmp 109) rfl b1 (o1 + k * 34) (encE x) rfl rfl (by rw [show (encE x).length = 34 from entE.len _]; exact entE.row_there R1.out k KM.out) (infoE _) (entE.one _) ?_
              have R2 : Hid (RowQ (v1.setCells b1 (o1 + k * 34) (encE x)) W.heap.size 27 34 (.slice (some ⟨b1, o1, none⟩) m c1) m (entE.row ((l.set i y).set k x))) := Lib.hid (entE.row_store R1.out (Nat.succ_pos 33) k KM.out x (entE.len _))
              have L2 := Lib.hid (below_setCells' L1.out b1 (o1 + k * 34) (encE x) BG.out)
              generalize World.setCells v1 b1 (o1 + k * 34) (encE x) = v2 at R2 L2 ⊢
              refine hK _ _ ?_
              clear hK K
              go_simp
              have cm : Hid (Calls Tryz.prog 15 #[.slice (some ⟨b1, o1, none⟩) m c1] v2 fun e W' => e = .returned (.bool (decide (i = k))) ∧ Below v2.heap.size v2 W') := Lib.hid (by
                have h := treeMay_any v2 (some ⟨b1, o1, none⟩) m c1 ((l.set i y).set k x) (R2.out.src (entE.row_one _)) (by have := M20.out; omega) NF2.out
                rw [SM.out] at h
                exact h)
              clear R0 R1 R2 L0 L1 CI2 CK2 NF2 SM him hkm
              refine wpAny_done (by kernel_rfl) ?_ _
              by_cases e : i = k
              · have ek : ((i : Int) == (k : Int)) = true := by rw [e]; exact beq_self_eq_true _
                have ek2 : (i : Int) = (k : Int) := by rw [e]
                rw [decide_eq_true e] at cm
                clear e
                go_wp2_with (go_at_call 15; refine cm.out.mono ?_; rintro e w3 ⟨rfl, hb⟩; have B3 := Lib.hid hb; clear hb)
                go_ret
                exact ⟨rfl, L2.out.trans (B3.out.mono L2.out.size)⟩
              · have ek2 : ¬ (i : Int) = (k : Int) := by omega
                have ek : ((i : Int) == (k : Int)) = false := beq_eq_false_iff_ne.2 ek2
                rw [decide_eq_false e] at cm
                clear e
                go_wp2_with (go_at_call 15; refine cm.out.mono ?_; rintro e w3 ⟨rfl, hb⟩; have B3 := Lib.hid hb; clear hb)
                go_ret
                exact ⟨rfl, L2.out.trans (B3.out.mono L2.out.size)⟩
            · skip
              refine step_loadI (by rfl) 27 (.tmp 108) rfl ⟨b1, o1 + i * 34, none⟩ rfl (encE x) (Tryz.isAgg27 _) (infoE _) CI2.out ?_
              refine hK _ _ ?_
              clear hK K
              go_simp
              refine wpAny_ready (rs := [7]) (by kernel_rfl) (by simp) ?_
              refine (AllReady.cons rfl (fun K hK => ?_) AllReady.nil)
              refine step_loadI (by rfl) 27 (.tmp 104) rfl ⟨b1, o1 + k * 34, none⟩ rfl (encE y) (Tryz.isAgg27 _) (infoE _) CK2.out ?_
              refine hK _ _ ?_
              clear hK K
              go_simp
              refine wpAny_ready (rs := [12]) (by kernel_rfl) (by simp) ?_
              refine (AllReady.cons rfl (fun K hK => ?_) AllReady.nil)
              go_simp
              refine hK _ _ ?_
              clear hK K
              go_simp
              refine wpAny_ready (rs := [13]) (by kernel_rfl) (by simp) ?_
              refine (AllReady.cons rfl (fun K hK => ?_) AllReady.nil)
              refine step_storeM (by rfl) 27 (.tmp 110) (.tmp 105) rfl b1 (o1 + i * 34) (encE y) rfl rfl (by rw [show (encE y).length = 34 from entE.len _]; exact entE.row_there R0.out i IM.out) (infoE _) (entE.one _) ?_
              have R1 : Hid (RowQ (v0.setCells b1 (o1 + i * 34) (encE y)) W.heap.size 27 34 (.slice (some ⟨b1, o1, none⟩) m c1) m (entE.row (l.set i y))) := Lib.hid (entE.row_store R0.out (Nat.succ_pos 33) i IM.out y (entE.len _))
              have L1 := Lib.hid (below_setCells' L0.out b1 (o1 + i * 34) (encE y) BG.out)
              generalize World.setCells v0 b1 (o1 + i * 34) (encE y) = v1 at R1 L1 ⊢
              refine hK _ _ ?_
              clear hK K
              go_simp
              refine wpAny_ready (rs := [14]) (by kernel_rfl) (by simp) ?_
              refine (AllReady.cons rfl (fun K hK => ?_) AllReady.nil)
              go_simp
              refine hK _ _ ?_
              clear hK K
              go_simp
              refine wpAny_ready (rs := [15]) (by kernel_rfl) (by simp) ?_
              refine (AllReady.cons rfl (fun K hK => ?_) AllReady.nil)
              refine step_storeM (by rfl) 27 (.tmp 111) (.tmp 109) rfl b1 (o1 + k * 34) (encE x) rfl rfl (by rw [show (encE x).length = 34 from entE.len _]; exact entE.row_there R1.out k KM.out) (infoE _) (entE.one _) ?_
              have R2 : Hid (RowQ (v1.setCells b1 (o1 + k * 34) (encE x)) W.heap.size 27 34 (.slice (some ⟨b1, o1, none⟩) m c1) m (entE.row ((l.set i y).set k x))) := Lib.hid (entE.row_store R1.out (Nat.succ_pos 33) k KM.out x (entE.len _))
              have L2 := Lib.hid (below_setCells' L1.out b1 (o1 + k * 34) (encE x) BG.out)
              generalize World.setCells v1 b1 (o1 + k * 34) (encE x) = v2 at R2 L2 ⊢
              refine hK _ _ ?_
              clear hK K
              go_simp
              have cm : Hid (Calls Tryz.prog 15 #[.slice (some ⟨b1, o1, none⟩) m c1] v2 fun e W' => e = .returned (.bool (decide (i = k))) ∧ Below v2.heap.size v2 W') := Lib.hid (by
                have h := treeMay_any v2 (some ⟨b1, o1, none⟩) m c1 ((l.set i y).set k x) (R2.out.src (entE.row_one _)) (by have := M20.out; omega) NF2.out
                rw [SM.out] at h
                exact h)
              clear R0 R1 R2 L0 L1 CI2 CK2 NF2 SM him hkm
              refine wpAny_done (by kernel_rfl) ?_ _
              by_cases e : i = k
              · have ek : ((i : Int) == (k : Int)) = true := by rw [e]; exact beq_self_eq_true _
                have ek2 : (i : Int) = (k : Int) := by rw [e]
                rw [decide_eq_true e] at cm
                clear e
                go_wp2_with (go_at_call 15; refine cm.out.mono ?_; rintro e w3 ⟨rfl, hb⟩; have B3 := Lib.hid hb; clear hb)
                go_ret
                exact ⟨rfl, L2.out.trans (B3.out.mono L2.out.size)⟩
              · have ek2 : ¬ (i : Int) = (k : Int) := by omega
                have ek : ((i : Int) == (k : Int)) = false := beq_eq_false_iff_ne.2 ek2
                rw [decide_eq_false e] at cm
                clear e
                go_wp2_with (go_at_call 15; refine cm.out.mono ?_; rintro e w3 ⟨rfl, hb⟩; have B3 := Lib.hid hb; clear hb)
                go_ret
                exact ⟨rfl, L2.out.trans (B3.out.mono L2.out.size)⟩
end Go.Proofs.YticcianbphljpaaGreatDoor
