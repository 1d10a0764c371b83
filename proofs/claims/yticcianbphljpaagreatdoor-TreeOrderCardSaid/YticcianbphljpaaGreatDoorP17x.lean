/- Objects as cells; object.May: may it be an object? object.May: a tree. Trees as objects: Put, Id, Links. object.Links of a tree: its entries' names. object.Get: an object from bytes: what it tells; a blob; no kind. object.Get: a tree. object.Eq: are two objects the same? colporteurlaw6.begun: the plain facts. -/
import Derived.Test.YticcianbphljpaaGreatDoorP14x
import Derived.Test.YticcianbphljpaaGreatDoorP15x
import Derived.Test.YticcianbphljpaaGreatDoorP8x
import Derived.Test.YticcianbphljpaaGreatDoorP9x
import Derived.Test.YticcianbphljpaaGreatDoorBe
import Derived.Test.YticcianbphljpaaGreatDoorP16x
import Derived.Test.YticcianbphljpaaGreatDoorP11x
namespace Go.Proofs.YticcianbphljpaaGreatDoor
open Go.RowKit
/-- Where an object's fields lie. -/
structure ObBlk (w : World) (g : Nat) (o : Obt) (A : Option Addr) (n k : Nat) (B : Option Addr) (m d : Nat) (bb : ByteArray) : Prop where
  blk : Blk w g 64 (objL o A n k B m d)
  kd : w.cell? ⟨g, 0, none⟩ = some (.int .i64 o.kd)
  blob : w.cell? ⟨g, 1, none⟩ = some (.string bb)
  ents : w.cell? ⟨g, 2, none⟩ = some (.slice A n k)
  com : ∀ j v, (comL o.com B m d)[j]? = some v → w.cell? ((⟨g, 3, none⟩ : Addr).add j) = some v
theorem ObBlk.of {w : World} {g : Nat} {o : Obt} {A : Option Addr} {n k : Nat} {B : Option Addr} {m d : Nat} (h : Blk w g 64 (objL o A n k B m d)) : ObBlk w g o A n k B m d ⟨o.blob.toArray⟩ :=
  ⟨h, h.cell 0 _ rfl, h.cell 1 _ rfl, h.cell 2 _ rfl, fun j v hv => by
    rw [addr_row _ rfl]
    refine h.cell (3 + j) v ?_
    unfold objL
    rw [List.getElem?_append_right (by simp)]
    simpa using hv⟩
theorem ObBlk.below {w w' : World} {g : Nat} {o : Obt} {A : Option Addr} {n k : Nat} {B : Option Addr} {m d : Nat} {bb : ByteArray} (h : ObBlk w g o A n k B m d bb) (hb : Below w.heap.size w w') : ObBlk w' g o A n k B m d bb := by
  have hg := h.blk.lt
  have key : ∀ j v, w.cell? ⟨g, j, none⟩ = some v → w'.cell? ⟨g, j, none⟩ = some v := fun j v hv => (hb.cell (p := ⟨g, j, none⟩) hg).trans hv
  exact ⟨h.blk.below hb, key _ _ h.kd, key _ _ h.blob, key _ _ h.ents, fun j v hv => by
    have := h.com j v hv
    rw [addr_row _ rfl] at this ⊢
    exact key _ _ this⟩
theorem infoO (o : Obt) (A : Option Addr) (n k : Nat) (B : Option Addr) (m d : Nat) : (Tryz.prog.info? 64).map (·.size) = some (objL o A n k B m d).length := by
  have h : (Tryz.prog.info? 64).map (·.size) = some 38 := by kernel_rfl
  rw [h, objL_len]
theorem objL_one (o : Obt) (A : Option Addr) (n k : Nat) (B : Option Addr) (m d : Nat) : ∀ v ∈ objL o A n k B m d, v.oneCell' = true := by
  intro v hv
  simp only [objL, List.mem_append, List.mem_cons, List.not_mem_nil, or_false] at hv
  rcases hv with (rfl | rfl | rfl) | h
  · rfl
  · rfl
  · rfl
  · exact comL_one _ _ _ _ v h
theorem ObAt.below {w w' : World} {o : Obt} {A : Option Addr} {n k : Nat} {B : Option Addr} {m d : Nat} (h : ObAt w o A n k B m d) (hb : Below w.heap.size w w') : ObAt w' o A n k B m d :=
  ⟨entE.src_below h.row hb, h.cap, h.max, h.names, h.blob, h.com.below hb⟩
theorem ObAt.len {w : World} {o : Obt} {A : Option Addr} {n k : Nat} {B : Option Addr} {m d : Nat} (h : ObAt w o A n k B m d) : o.ents.length = n := entE.src_len h.row
theorem noComAt (w : World) : ComAt w noCom none 0 0 := ⟨⟨rfl, fun h => absurd h (Nat.lt_irrefl 0), fun u hu => by cases hu⟩, Nat.le_refl _, Nat.zero_le _, Nat.zero_lt_succ _, Nat.zero_le _⟩
theorem zCv_eq : (Value.agg #[.int .u8 0, .int .u8 0, .int .u8 0, .int .u8 0, .int .u8 0, .int .u8 0, .int .u8 0, .int .u8 0, .int .u8 0, .int .u8 0, .int .u8 0, .int .u8 0, .int .u8 0, .int .u8 0, .int .u8 0, .int .u8 0, .int .u8 0, .int .u8 0, .int .u8 0, .int .u8 0, .int .u8 0, .int .u8 0, .int .u8 0, .int .u8 0, .int .u8 0, .int .u8 0, .int .u8 0, .int .u8 0, .int .u8 0, .int .u8 0, .int .u8 0, .int .u8 0, .slice none 0 0, .float .f64 0, .string ⟨#[]⟩] : Value) = .agg zeroC.toArray := by kernel_rfl
/-- A struct built, in a walk of what only reads. -/
theorem wpQuiet_build {P : Program} {ops : Array Oper} {rest : List Oper} {C : World → Prop} {o : Oper} {a : Act} {Q : Act → Prop} (hgd : Region.wanted o (yielded ops a.tmps) = true) (t : TypeId) (parts : Array (Nat × Operand)) (ho : o.op = .build t parts) (cs : List Value) (hb : P.built t (parts.map fun (i, x) => (i, a.eval x)).toList = some cs.toArray)
    (h : wpQuiet P ops C Q rest (a.put o.dst (.agg cs.toArray))) : wpQuiet P ops C Q (o :: rest) a :=
  wpQuiet_val hgd (.agg cs.toArray) (fun w _ => by
    unfold execOp
    simp only [ho, Sem.run_bind, run_build w t _ _ hb, Result.andThen_ok, Sem.run_pure]) h
theorem empty_blob (l : List UInt8) (s : ByteArray) (h : s = ⟨l.toArray⟩) : (s.toList == []) = decide (l = []) ∧ s.toList.isEmpty = decide (l = []) := by
  rw [ByteArray.toList_eq, h]
  cases l <;> simp
theorem empty_ents (l : List Ent) (n : Nat) (h : l.length = n) : ((n : Int) == 0) = decide (l = []) := by
  cases l with
  | nil => simp at h; subst h; simp
  | cons x r =>
    simp at h
    rw [decide_eq_false (by simp)]
    simp
    omega
end Go.Proofs.YticcianbphljpaaGreatDoor
namespace Go.Proofs.YticcianbphljpaaGreatDoor
open Go.RowKit
set_option maxRecDepth 20000 in
set_option maxHeartbeats 16000000 in
theorem objMay_2 (W : World) (o : Obt) (A : Option Addr) (n k : Nat) (B : Option Addr) (m d : Nat) (h : ObAt W o A n k B m d) (hn : n ≤ 1099511627776) (hm : m ≤ 1099511627776) (hkd0 : o.kd = 2) :
    Calls Tryz.prog 38 #[.agg (objL o A n k B m d).toArray] W fun e W' => e = .returned (.bool (mayO o)) ∧ Below W.heap.size W W' := by
  obtain ⟨bb, hbb⟩ : ∃ bb : ByteArray, bb = ⟨o.blob.toArray⟩ := ⟨_, rfl⟩
  obtain ⟨hp1, hp2⟩ := empty_blob o.blob bb hbb
  have hp3 := empty_ents o.ents n h.len
  have hbz : o.blob.length = bb.size := by rw [hbb, ba_size]
  obtain ⟨r, hr⟩ : ∃ r, r = mayO o := ⟨_, rfl⟩
  rw [← hr]
  unfold mayO at hr
  rw [hbz] at hr
  have l0 := (Below.refl W.heap.size W).alloc (Nat.le_refl _) (.cells (objL o A n k B m d).toArray 64)
  have k0 := ObBlk.of (Blk.new W 64 (objL o A n k B m d))
  rw [← hbb] at k0
  obtain ⟨w0, hw0⟩ : ∃ w0, w0 = W.alloc (.cells (objL o A n k B m d).toArray 64) := ⟨_, rfl⟩
  rw [← hw0] at l0 k0
  have cQ : ∀ w, Below W.heap.size W w → Calls Tryz.prog 30 #[.agg (comL o.com B m d).toArray, .agg zeroC.toArray] w fun e w' => e = .returned (.bool (eqC o.com noCom)) ∧ Below w.heap.size w w' := fun w hw => commitEq_any w o.com noCom B m d none 0 0 (h.com.below hw) (noComAt w) hm (by omega)
  have cT := fun w (hw : Below W.heap.size W w) => treeMay_any w A n k o.ents (entE.src_below h.row hw) hn h.names
  have cM := fun w (hw : Below W.heap.size W w) => commitMay_any w o.com B m d (h.com.below hw) hm
  have ic := infoC o.com B m d
  generalize eqC o.com noCom = pc at cQ hr
  generalize decide (o.blob = []) = pb at hp1 hp2 hr
  generalize decide (o.ents = []) = pt at hp3 hr
  generalize mayT o.ents = pm at cT hr
  generalize mayC o.com = pn at cM hr
  obtain ⟨g, hg⟩ : ∃ g, g = W.heap.size := ⟨_, rfl⟩
  rw [← hg] at k0
  have L0 := Lib.hid l0
  have K0 := Lib.hid k0
  have HW : Hid (∀ w, Below w0.heap.size w0 w → Below W.heap.size W w) := Lib.hid fun w hw => l0.trans (hw.mono l0.size)
  have CQ : Hid (∀ s : Ext w0, Calls Tryz.prog 30 #[.agg (comL o.com B m d).toArray, .agg zeroC.toArray] s.at_ fun e w' => e = .returned (.bool pc) ∧ Below s.at_.heap.size s.at_ w') := Lib.hid fun s => cQ _ (HW.out _ s.below)
  have CT := Lib.hid cT
  have CM := Lib.hid cM
  have IC := Lib.hid ic
  have x0 : ∀ s : Ext w0, s.at_.cell? ⟨g, 1, none⟩ = some (.string bb) := fun s => (k0.below s.below).blob
  have x1 : ∀ s : Ext w0, s.at_.cell? ⟨g, 2, none⟩ = some (.slice A n k) := fun s => (k0.below s.below).ents
  have XC : Hid (∀ w', (∃ s : Ext w0, w' = s.at_) → ∀ j v, (comL o.com B m d)[j]? = some v → w'.cell? ((⟨g, 3, none⟩ : Addr).add j) = some v) := Lib.hid fun w' ⟨s, hw⟩ j v hv => by rw [hw]; exact (k0.below s.below).com j v hv
  have zV := zCv_eq
  obtain ⟨zC, hzC⟩ : ∃ zC, zC = zeroC := ⟨_, rfl⟩
  rw [← hzC] at zV CQ
  clear hzC
  obtain ⟨cs, hcs⟩ : ∃ cs, cs = objL o A n k B m d := ⟨_, rfl⟩
  obtain ⟨cc, hcc⟩ : ∃ cc, cc = comL o.com B m d := ⟨_, rfl⟩
  rw [← hcs] at hw0 ⊢
  rw [← hcc] at CQ CM IC XC
  have KC : Hid (∀ w, Below w0.heap.size w0 w → ∀ j v, cc[j]? = some v → w.cell? ((⟨g, 3, none⟩ : Addr).add j) = some v) := Lib.hid fun w hw j v hv => (K0.out.below hw).com j v (by rw [← hcc]; exact hv)
  have KK : Hid (∀ w, Below w0.heap.size w0 w → w.cell? ⟨g, 0, none⟩ = some (.int .i64 o.kd) ∧ w.cell? ⟨g, 1, none⟩ = some (.string bb) ∧ w.cell? ⟨g, 2, none⟩ = some (.slice A n k)) := Lib.hid fun w hw => ⟨(K0.out.below hw).kd, (K0.out.below hw).blob, (K0.out.below hw).ents⟩
  obtain ⟨kd, hkd⟩ : ∃ kd, kd = o.kd := ⟨_, rfl⟩
  rw [← hkd] at KK hr hkd0
  have HR := Lib.hid hr
  clear h hn hm hbb hbz hr l0 k0 cQ cT cM ic hcs hcc K0 hkd
  go_enter Tryz.func38, Tryz.ntmps38
  go_upto_region 1 with fail
  change Code.wp _ _ _ _ (W.alloc (.cells cs.toArray 64))
  rw [← hw0, ← hg]
  clear hw0 hg
  have hemp := ext_nonempty w0
  refine wp_region_ext (by kernel_rfl) (by kernel_rfl) ?_
  repeat (first
    | quiet_step (fail)
    | go_big_quiet_step (fail)
    | (refine wpQuiet_loadS (by rfl) 34 (.tmp 13) rfl ⟨g, 3, none⟩ rfl cc Tryz.isAgg34 IC.out XC.out ?_)
    | quiet_step ((go_at_call 30; exact Ext.call (CQ.out _))))
  refine wpQuiet_nil ?_
  rintro _ ⟨s9, rfl⟩
  have L1 := Lib.hid s9.below
  generalize s9.at_ = w1 at L1 ⊢
  have LW := Lib.hid (HW.out _ L1.out)
  obtain ⟨y0, y1, y2⟩ := KK.out _ L1.out
  clear x0 x1 hp1 hp2 hp3 CQ XC hemp KK
  have e2 := hkd0
  clear hkd0
  subst e2
  have h1 := HR.out
  rw [if_neg (by omega), if_pos rfl] at h1
  have H1 := Lib.hid h1
  clear HR h1
  cases pb
  · have H2 := Lib.hid (show r = false from H1.out)
    go_wp2
    go_ret
    exact ⟨by rw [H2.out]; rfl, LW.out⟩
  · cases pc
    · have H2 := Lib.hid (show r = false from H1.out)
      go_wp2
      go_ret
      exact ⟨by rw [H2.out]; rfl, LW.out⟩
    · have H2 := Lib.hid (show r = pm from H1.out)
      go_wp2_with (go_at_call 15; refine (CT.out _ LW.out).mono ?_; rintro e w2 ⟨rfl, h2⟩; have B2 := Lib.hid h2; clear h2)
      go_ret
      exact ⟨by rw [H2.out]; rfl, LW.out.trans (B2.out.mono LW.out.size)⟩
end Go.Proofs.YticcianbphljpaaGreatDoor
namespace Go.Proofs.YticcianbphljpaaGreatDoor
open Go.RowKit
theorem treePut_fit (es : List Ent) (h : mayT es = true) : putV es = .tuple #[.string ⟨(treeB es).toArray⟩, .bool true] := by unfold putV; rw [h]; rfl
/-- What object.Put tells. -/
def putOV (o : Obt) : Value := .tuple #[.string ⟨(bif mayO o then putO o else []).toArray⟩, .bool (mayO o)]
theorem putO_size (o : Obt) (hb : o.com.wh < 18446744073709551616) (h : mayO o = true) : (putO o).length ≤ 2000 := by
  unfold mayO at h
  unfold putO
  by_cases e1 : o.kd = 1
  · rw [if_pos e1] at h
    simp only [Bool.and_eq_true, decide_eq_true_eq] at h
    rw [if_neg (by omega), if_neg (by omega)]
    omega
  · rw [if_neg e1] at h
    by_cases e2 : o.kd = 2
    · rw [if_pos e2] at h
      simp only [Bool.and_eq_true] at h
      rw [if_pos e2]
      have h1 := mayT_len h.2
      have h2 := treeB_len o.ents fun e he => by
        obtain ⟨j, hj, rfl⟩ := List.getElem_of_mem he
        have := nameB_len (mayT_name h.2 j hj)
        rwa [getElem!_pos o.ents j hj] at this
      omega
    · rw [if_neg e2] at h
      by_cases e3 : o.kd = 3
      · rw [if_pos e3] at h
        simp only [Bool.and_eq_true] at h
        have hc := h.2
        rw [if_neg e2, if_pos e3]
        unfold mayC at hc
        simp only [Bool.and_eq_true, decide_eq_true_eq] at hc
        have ht := o.com.tree.2
        have hw := wput_len hb hc.2
        unfold commitB
        simp only [List.length_append, hexL_length, parsB_len, treeW, whenW, List.length_cons, List.length_nil]
        omega
      · rw [if_neg e3] at h
        cases h
set_option maxRecDepth 20000 in
set_option maxHeartbeats 6400000 in
theorem objPut_tree (W : World) (o : Obt) (A : Option Addr) (n k : Nat) (B : Option Addr) (m d : Nat) (h : ObAt W o A n k B m d) (hn : n ≤ 1099511627776) (hm : m ≤ 1099511627776) (hG : Gl W) (hk2 : o.kd = 2) (hq : mayO o = true) :
    Calls Tryz.prog 33 #[.agg (objL o A n k B m d).toArray] W fun e W' => e = .returned (putOV o) ∧ Below W.heap.size W W' := by
  obtain ⟨bb, hbb⟩ : ∃ bb : ByteArray, bb = ⟨o.blob.toArray⟩ := ⟨_, rfl⟩
  have l0 := (Below.refl W.heap.size W).alloc (Nat.le_refl _) (.cells (objL o A n k B m d).toArray 64)
  have k0 := ObBlk.of (Blk.new W 64 (objL o A n k B m d))
  rw [← hbb] at k0
  obtain ⟨w0, hw0⟩ : ∃ w0, w0 = W.alloc (.cells (objL o A n k B m d).toArray 64) := ⟨_, rfl⟩
  rw [← hw0] at l0 k0
  have HW : Hid (∀ w, Below w0.heap.size w0 w → Below W.heap.size W w) := Lib.hid fun w hw => l0.trans (hw.mono l0.size)
  have cM := fun w (hw : Below W.heap.size W w) => objMay_2 w o A n k B m d (h.below hw) hn hm hk2
  have cT := fun w (hw : Below W.heap.size W w) => treePut_any w A n k o.ents (entE.src_below h.row hw) hn h.names
  have cC := fun w (hw : Below W.heap.size W w) => commitPut_any w o.com B m d (h.com.below hw) hm (hG.below hw)
  have ic := infoC o.com B m d
  have io := infoO o A n k B m d
  have L0 := Lib.hid l0
  have K0 := Lib.hid k0
  obtain ⟨g, hg⟩ : ∃ g, g = W.heap.size := ⟨_, rfl⟩
  rw [← hg] at K0
  obtain ⟨cs, hcs⟩ : ∃ cs, cs = objL o A n k B m d := ⟨_, rfl⟩
  obtain ⟨cc, hcc⟩ : ∃ cc, cc = comL o.com B m d := ⟨_, rfl⟩
  rw [← hcs] at hw0 cM io ⊢
  rw [← hcc] at ic cC
  have KC : Hid (∀ w, Below w0.heap.size w0 w → ∀ j v, cc[j]? = some v → w.cell? ((⟨g, 3, none⟩ : Addr).add j) = some v) := Lib.hid fun w hw j v hv => (K0.out.below hw).com j v (by rw [← hcc]; exact hv)
  have KO : Hid (∀ j v, cs[j]? = some v → w0.cell? ((⟨g, 0, none⟩ : Addr).add j) = some v) := Lib.hid fun j v hv => by rw [addr_row _ rfl, Nat.zero_add]; rw [hcs] at hv; exact K0.out.blk.cell j v hv
  have KK : Hid (∀ w, Below w0.heap.size w0 w → w.cell? ⟨g, 0, none⟩ = some (.int .i64 o.kd) ∧ w.cell? ⟨g, 1, none⟩ = some (.string bb) ∧ w.cell? ⟨g, 2, none⟩ = some (.slice A n k)) := Lib.hid fun w hw => ⟨(K0.out.below hw).kd, (K0.out.below hw).blob, (K0.out.below hw).ents⟩
  have IC := Lib.hid ic
  have IO := Lib.hid io
  obtain ⟨kd, hkd⟩ : ∃ kd, kd = o.kd := ⟨_, rfl⟩
  rw [← hkd] at KK
  have LW0 := Lib.hid (HW.out _ (Below.refl _ _))
  have HV : Hid (putOV o = .tuple #[.string ⟨(putO o).toArray⟩, .bool true]) := Lib.hid (by unfold putOV; rw [hq]; rfl)
  have hmay := hq
  rw [hq] at cM
  unfold mayO at hmay
  rw [← hkd] at hmay
  have CM := Lib.hid cM
  have hpo : putO o = if kd = 2 then treeB o.ents else if kd = 3 then commitB o.com else o.blob := by rw [hkd]; rfl

  have e2 : kd = 2 := by rw [hkd]; exact hk2
  subst e2
  have ht : mayT o.ents = true := by
    rw [if_neg (by omega), if_pos rfl] at hmay
    simp only [Bool.and_eq_true] at hmay
    exact hmay.2
  rw [treePut_fit _ ht] at cT
  rw [if_pos rfl] at hpo
  rw [hpo] at HV
  have CT := Lib.hid cT
  clear h hn hm hG hbb l0 k0 cM cT cC ic io hcs hcc hkd hq KC hmay ht hpo hk2
  go_enter Tryz.func33, Tryz.ntmps33
  go_upto_region 1 with fail
  change Code.wp _ _ _ _ (W.alloc (.cells cs.toArray 64))
  rw [← hw0, ← hg]
  clear hw0 hg
  go_upto_region 3 with (first
    | (refine wpl_loadS rfl 64 (.tmp 1) rfl ⟨g, 0, none⟩ rfl cs Tryz.isAgg64 IO.out KO.out ?_)
    | (go_at_call 38; refine (CM.out _ LW0.out).mono ?_; rintro e w1 ⟨rfl, h1⟩; have B1 : Hid (Below w0.heap.size w0 w1) := Lib.hid h1; clear h1))
  obtain ⟨y0, y1, y2⟩ := KK.out _ B1.out
  have LW := Lib.hid (HW.out _ B1.out)
  clear KK
  go_wp2_with (go_at_call 23; refine (CT.out _ LW.out).mono ?_; rintro e w2 ⟨rfl, h2⟩; have B2 := Lib.hid h2; clear h2)
  go_ret2
  exact ⟨by rw [HV.out]; rfl, LW.out.trans (B2.out.mono LW.out.size)⟩
/-- What object.Id tells. -/
def idOV (o : Obt) : Value := bif mayO o then .tuple #[.agg (Bs (sha256 (ofL o.kd (putO o)))).toArray, .bool true] else .tuple #[.agg zero32.toArray, .bool false]
set_option maxRecDepth 20000 in
set_option maxHeartbeats 6400000 in
theorem objId_tree (W : World) (o : Obt) (A : Option Addr) (n k : Nat) (B : Option Addr) (m d : Nat) (h : ObAt W o A n k B m d) (hn : n ≤ 1099511627776) (hm : m ≤ 1099511627776) (hG : Gl W) (hk2 : o.kd = 2) (hq : mayO o = true) :
    Calls Tryz.prog 37 #[.agg (objL o A n k B m d).toArray] W fun e W' => e = .returned (idOV o) ∧ Below W.heap.size W W' := by
  have zI := zI_eq
  have b0 := (Below.refl W.heap.size W).alloc (Nat.le_refl _) (.cells (objL o A n k B m d).toArray 64)
  have l0 := b0.alloc (by rw [hsz]; omega) (.cells zero32.toArray 25)
  have k0 := (ObBlk.of (Blk.new W 64 (objL o A n k B m d))).below ((Below.refl _ _).alloc (Nat.le_refl _) (.cells zero32.toArray 25))
  have z0 := Blk.new (W.alloc (.cells (objL o A n k B m d).toArray 64)) 25 zero32
  rw [hsz] at z0
  obtain ⟨w0, hw0⟩ : ∃ w0, w0 = (W.alloc (.cells (objL o A n k B m d).toArray 64)).alloc (.cells zero32.toArray 25) := ⟨_, rfl⟩
  rw [← hw0] at l0 k0 z0
  have HW : Hid (∀ w, Below w0.heap.size w0 w → Below W.heap.size W w) := Lib.hid fun w hw => l0.trans (hw.mono l0.size)
  have cP := objPut_tree w0 o A n k B m d (h.below l0) hn hm (hG.below l0) hk2 hq
  unfold putOV at cP
  have io := infoO o A n k B m d
  have HG := Lib.hid hG
  have K0 := Lib.hid k0
  have Z0 := Lib.hid z0
  obtain ⟨g, hg⟩ : ∃ g, g = W.heap.size := ⟨_, rfl⟩
  obtain ⟨g2, hg2⟩ : ∃ g2, g2 = W.heap.size + 1 := ⟨_, rfl⟩
  have G2 : Hid (W.heap.size ≤ g2) := Lib.hid (by omega)
  rw [← hg] at K0
  rw [← hg2] at Z0
  obtain ⟨cs, hcs⟩ : ∃ cs, cs = objL o A n k B m d := ⟨_, rfl⟩
  rw [← hcs] at hw0 cP io ⊢
  have KO : Hid (∀ j v, cs[j]? = some v → w0.cell? ((⟨g, 0, none⟩ : Addr).add j) = some v) := Lib.hid fun j v hv => by rw [addr_row _ rfl, Nat.zero_add]; rw [hcs] at hv; exact K0.out.blk.cell j v hv
  have KK : Hid (∀ w, Below w0.heap.size w0 w → w.cell? ⟨g, 0, none⟩ = some (.int .i64 o.kd)) := Lib.hid fun w hw => (K0.out.below hw).kd
  have IO := Lib.hid io
  unfold idOV
  obtain ⟨pb, hpb⟩ : ∃ pb : ByteArray, pb = ⟨(putO o).toArray⟩ := ⟨_, rfl⟩
  have hpz : pb.size ≤ 1099511627776 := by have := putO_size o h.com.bits hq; rw [hpb, ba_size]; show (putO o).length ≤ _; omega
  have cO : ∀ w, Below w0.heap.size w0 w → Calls Tryz.prog 72 #[.int .i64 o.kd, .string pb] w fun e w' => e = .returned (.agg (Bs (sha256 (ofL o.kd (putO o)))).toArray) ∧ Below w.heap.size w w' := fun w hw => by
    have := of_any w o.kd pb hpz (HG.out.below (HW.out w hw))
    have e : pb.data.toList = putO o := by rw [hpb]
    rwa [e] at this
  rw [hq] at cP ⊢
  simp only [cond_true]
  simp only [cond_true] at cP
  rw [← hpb] at cP
  have sl : (Bs (sha256 (ofL o.kd (putO o)))).length = 32 := by simp
  have so := Bs_one (sha256 (ofL o.kd (putO o)))
  generalize Bs (sha256 (ofL o.kd (putO o))) = sv at cO sl so ⊢
  generalize o.kd = kd at cO KK
  have CP := Lib.hid cP
  have CO := Lib.hid cO
  have SL := Lib.hid sl
  have SO := Lib.hid so
  clear h hn hm hG b0 l0 k0 z0 cP io hcs hq hk2 K0 hpb hpz cO sl so
  go_enter Tryz.func37, Tryz.ntmps37
  go_upto_region 1 with fail
  change Code.wp _ _ _ _ ((W.alloc (.cells cs.toArray 64)).alloc (.cells zero32.toArray 25))
  rw [← hw0, ← hg2, ← hg]
  clear hw0 hg hg2
  go_wp2_with (first
    | (refine wpl_loadS rfl 64 (.tmp 1) rfl ⟨g, 0, none⟩ rfl cs Tryz.isAgg64 IO.out KO.out ?_)
    | (go_at_call 33; refine CP.out.mono ?_; rintro e w1 ⟨rfl, h1⟩; have B1 := Lib.hid h1; have Z1 := Lib.hid (Z0.out.below h1); have y0 := KK.out _ h1; clear h1)
    | (go_at_call 72; refine (CO.out _ B1.out).mono ?_; rintro e w2 ⟨rfl, h2⟩; have B2 := Lib.hid (B1.out.trans (h2.mono B1.out.size)); have Z2 := Lib.hid (Z1.out.below h2); clear h2)
    | (refine wpl_store rfl 25 (.tmp 2) _ rfl g2 sv rfl rfl 25 zero32 Z2.out (by rw [Tryz.sizeId, SL.out]) (by rw [SL.out]; simp [zero32]) SO.out ?_))
  refine bodyPost_ret (res_row2 rfl _ _ g2 25 sv 32 5 rfl (Z2.out.row _) Tryz.underlying25 (by rw [Tryz.sizeId, SL.out])) rfl ?_
  exact ⟨rfl, below_setRow' (HW.out _ B2.out) G2.out _⟩
end Go.Proofs.YticcianbphljpaaGreatDoor
namespace Go.Proofs.YticcianbphljpaaGreatDoor
open Go.RowKit
/-- What object.Links tells. -/
def LinksPost (W : World) (l : List Idt) (e : Ending) (W' : World) : Prop := ∃ A c, e = .returned (.slice A l.length c) ∧ RowQ W' W.heap.size 25 32 (.slice A l.length c) l.length (rowI l) ∧ Below W.heap.size W W'
theorem ids_take (es : List Ent) (k : Nat) (h : k < es.length) : (es.take (k + 1)).map (·.id) = (es.take k).map (·.id) ++ [es[k]!.id] := by
  have e : es.take (k + 1) = es.take k ++ [es[k]!] := by
    rw [List.take_add_one, getElem!_pos es k h]
    simp [h]
  rw [e, List.map_append]
  rfl
set_option maxRecDepth 20000 in
set_option maxHeartbeats 6400000 in
theorem links_tree (W : World) (o : Obt) (A : Option Addr) (n k : Nat) (B : Option Addr) (m d : Nat) (h : ObAt W o A n k B m d) (hn : n ≤ 1099511627776) (hk : o.kd = 2) :
    Calls Tryz.prog 39 #[.agg (objL o A n k B m d).toArray] W (LinksPost W (linksO o)) := by
  have hl : linksO o = o.ents.map (·.id) := by unfold linksO; rw [if_pos hk]
  rw [hl]
  have zI := zI_eq
  have LN := Lib.hid h.len
  have l0 := (Below.refl W.heap.size W).alloc (Nat.le_refl _) (.cells (objL o A n k B m d).toArray 64)
  have kb := ObBlk.of (Blk.new W 64 (objL o A n k B m d))
  obtain ⟨w0, hw0⟩ : ∃ w0, w0 = W.alloc (.cells (objL o A n k B m d).toArray 64) := ⟨_, rfl⟩
  rw [← hw0] at l0 kb
  have s0 := entE.src_below h.row l0
  have k0 := kb.kd
  have k2 := kb.ents
  rw [hk] at k0
  have L0 := Lib.hid l0
  have S0 := Lib.hid s0
  have HN := Lib.hid hn
  have n9 : (n : Int) ≤ 1099511627776 := by omega
  obtain ⟨es, hes⟩ : ∃ es, es = o.ents := ⟨_, rfl⟩
  rw [← hes] at LN S0 ⊢
  generalize objL o A n k B m d = cs at hw0 ⊢
  clear h hn hk hl l0 kb s0 hes
  go_enter Tryz.func39, Tryz.ntmps39
  go_upto_region 1 with fail
  change Code.wp _ _ _ _ (W.alloc (.cells cs.toArray 64))
  rw [← hw0]
  clear hw0
  obtain ⟨g, hg⟩ : ∃ g, g = W.heap.size := ⟨_, rfl⟩
  rw [← hg] at k0 k2
  rw [← hg]
  have G := Lib.hid hg
  clear hg
  go_wp2
  clear k0 k2
  go_loopw [3, 13] (fun v i wr => ∃ j : Nat, j ≤ n ∧ i = .int .i64 j ∧ RowQ wr w0.heap.size 25 32 v j (rowI ((es.take j).map (·.id))) ∧ Below w0.heap.size w0 wr) (fun _ i _ => n - (intOf i).toNat)
  case atStart => exact ⟨0, by omega, rfl, RowQ.nil _ _ _ _, Below.refl _ _⟩
  case round =>
    obtain ⟨j, hj, rfl, hr, hb⟩ := hrel
    obtain ⟨A1, c1, rfl, hc1, hm1⟩ := hr.shape
    have RQ := Lib.hid hr
    have BR := Lib.hid hb
    clear hr hb hc1 hm1
    by_cases hlt : j < n
    · have k1 : (j : Int) < (n : Int) := by omega
      have hln := LN.out
      obtain ⟨_, b, oo, rfl, hc⟩ := entE.src_at (entE.src_below S0.out BR.out) (by omega)
      have ce : ∀ t v, (encE es[j]!)[t]? = some v → wr.cell? ((⟨b, oo + j * 34, none⟩ : Addr).add t) = some v := entE.at_elem (hc j hlt)
      have hnx := ids_take es j (by omega)
      obtain ⟨e, he⟩ : ∃ e, e = es[j]! := ⟨_, rfl⟩
      rw [← he] at ce hnx
      have CE := Lib.hid ce
      have NX := Lib.hid hnx
      have I1 := Lib.hid (infoE e)
      have ID := Lib.hid (infoId e.id)
      have HLT := Lib.hid hlt
      clear hc ce hnx he hlt hj hln
      have low := Lib.hid (L0.out.trans (BR.out.mono L0.out.size))
      go_upto_region 7 with (first
        | (refine wpl_loadS rfl 27 (.tmp 15) rfl ⟨b, oo + j * 34, none⟩ rfl (encE e) Tryz.isAgg27 I1.out CE.out ?_)
        | (refine wpl_storeS rfl 27 (.tmp 5) _ rfl wr.heap.size (encE e) rfl rfl 27 _ (Blk.new wr _ _) I1.out (by rw [show (encE e).length = 34 from entE.len _]; rfl) (entE.one _) ?_))
      generalize hw1 : World.setRow _ _ _ = w1
      have E1 : Hid (Below wr.heap.size wr w1) := Lib.hid (by rw [← hw1]; exact (ent_laid wr e).1)
      have K1 : Hid (Blk w1 wr.heap.size 27 (encE e)) := Lib.hid (by rw [← hw1]; exact (ent_laid wr e).2)
      have R1 := Lib.hid (RQ.out.below E1.out)
      have L1 := Lib.hid (low.out.trans (E1.out.mono low.out.size))
      have B1 := Lib.hid (BR.out.trans (E1.out.mono BR.out.size))
      clear hw1 CE I1
      generalize wr.heap.size = ge at K1 ⊢
      have CI : Hid (∀ t v, (encI e.id)[t]? = some v → w1.cell? ((⟨ge, 2, none⟩ : Addr).add t) = some v) := Lib.hid fun t v hv => by
        rw [addr_row _ rfl]
        refine K1.out.cell _ v ?_
        show (encE e)[2 + t]? = some v
        rw [Nat.add_comm]
        exact hv
      go_wp2_with (first
        | (refine wpl_loadS rfl 25 (.tmp 18) rfl ⟨ge, 2, none⟩ rfl (encI e.id) Tryz.isAgg25 ID.out CI.out ?_)
        | (refine wpl_buildE idtE rfl 31 25 1 _ rfl [e.id] rfl rfl (.agg zero32.toArray) 32 Tryz.underlying31 Tryz.infoIdz (by decide) (by decide) ?_; have R2 := Lib.hid (R1.out.alloc (.cells (idtE.row [e.id]).toArray 25)); have L2 := Lib.hid (L1.out.alloc L1.out.size (.cells (idtE.row [e.id]).toArray 25)); have B2 := Lib.hid (B1.out.alloc B1.out.size (.cells (idtE.row [e.id]).toArray 25)); have S2 := Lib.hid (row_src idtE w1 25 [e.id]); generalize w1.heap.size = g2 at S2 ⊢; generalize World.alloc w1 (.cells (idtE.row [e.id]).toArray 25) = w2 at R2 L2 B2 S2 ⊢)
        | (at_builtin; refine wpl_append rfl (.tmp 17) (.tmp 20) 31 rfl w0.heap.size 25 (.agg zero32.toArray) 32 32 Tryz.underlying31 Tryz.infoIdz rfl (by decide) (.slice A1 j c1) j (rowI ((es.take j).map (·.id))) rfl R2.out (some ⟨g2, 0, none⟩) 1 1 (rowI [e.id]) rfl S2.out (by have := HN.out; have := HLT.out; omega) (by have := HN.out; have := HLT.out; omega) B2.out.size ?_; intro v3 w3 hr3 hg3 ha3; have R3 := Lib.hid hr3; have B3 : Hid (Below w0.heap.size w0 w3) := Lib.hid (B2.out.grown hg3 B2.out.size (fun k e => (R2.out.lt k e).1)); clear hr3 hg3 ha3))
      go_roundw
      case measure => simp [intOf]; have := HLT.out; omega
      case rel => exact ⟨j + 1, HLT.out, by go_num, by rw [NX.out, rowI_append]; exact R3.out, B3.out⟩
    · have : j = n := by omega
      subst this
      have hrow := RQ.out
      rw [List.take_of_length_le (by have := LN.out; omega)] at hrow
      have RW := Lib.hid hrow
      have LM := Lib.hid (show (es.map (·.id)).length = j by simp [LN.out])
      clear hrow RQ hj hlt
      go_wp2
      go_ret
      unfold LinksPost
      rw [LM.out]
      exact ⟨A1, c1, rfl, RW.out.mono L0.out.size, L0.out.trans (BR.out.mono L0.out.size)⟩
end Go.Proofs.YticcianbphljpaaGreatDoor
namespace Go.Proofs.YticcianbphljpaaGreatDoor
open Go.RowKit
/-- An object of noughts. -/
def zeroO : List Value := objL noOb none 0 0 none 0 0
theorem builtO : BuiltAs Tryz.prog 64 zeroO [(0, 1), (1, 1), (2, 1), (3, 35)] := fun parts => by
  obtain ⟨it, hi, hz⟩ : ∃ it, Tryz.prog.info? 64 = some it ∧ it.zero.map Value.cells = some zeroO.toArray := by
    have h : (Tryz.prog.info? 64).map (fun it => it.zero.map Value.cells) = some (some zeroO.toArray) := by kernel_rfl
    exact Option.map_eq_some_iff.1 h
  exact built_fill _ _ _ it hi Tryz.underlying64 hz (by kernel_rfl)
theorem built_kindO (k : Int) : Tryz.prog.built 64 [(0, .int .i64 k)] = some (objL ⟨k, [], [], noCom⟩ none 0 0 none 0 0).toArray := by
  rw [builtO, fill_one _ _ 0 _ _ 0 [.int .i64 k] rfl (by simp) (by simp [zeroO, objL_len]), Instr.fill]
  simp [zeroO, objL, noOb]
theorem built_treeO (k : Int) (A : Option Addr) (n c : Nat) (es : List Ent) : Tryz.prog.built 64 [(0, .int .i64 k), (2, .slice A n c)] = some (objL ⟨k, [], es, noCom⟩ A n c none 0 0).toArray := by
  rw [builtO, fill_one _ _ 0 _ _ 0 [.int .i64 k] rfl (by simp) (by simp [zeroO, objL_len]), fill_one _ _ 2 _ _ 2 [.slice A n c] rfl (by simp) (by simp [zeroO, objL]), Instr.fill]
  simp [zeroO, objL, noOb]
theorem infoZO : (Tryz.prog.info? 64).map (·.size) = some zeroO.length := infoO _ _ _ _ _ _ _
theorem zeroO_one : ∀ v ∈ zeroO, v.oneCell' = true := objL_one _ _ _ _ _ _ _
/-- What object.Get tells. -/
def GetOPost (W : World) (k : Int) (l : List UInt8) (e : Ending) (W' : World) : Prop := Below W.heap.size W W' ∧
  if (getO k l).2 = 0 then ∃ A c B d, e = .returned (.tuple #[.agg (objL (getO k l).1 A (getO k l).1.ents.length c B (getO k l).1.com.ps.length d).toArray, .int .i64 0]) ∧
      RowQ W' W.heap.size 27 34 (.slice A (getO k l).1.ents.length c) (getO k l).1.ents.length (entE.row (getO k l).1.ents) ∧
      RowQ W' W.heap.size 25 32 (.slice B (getO k l).1.com.ps.length d) (getO k l).1.com.ps.length (rowI (getO k l).1.com.ps)
  else e = .returned (.tuple #[.agg zeroO.toArray, .int .i64 (getO k l).2])
theorem getO_err {W W' : World} {k : Int} {l : List UInt8} {e : Ending} {c : Int} (h : getO k l = (noOb, c)) (hc : c ≠ 0) (he : e = .returned (.tuple #[.agg zeroO.toArray, .int .i64 c])) (hb : Below W.heap.size W W') : GetOPost W k l e W' := by
  refine ⟨hb, ?_⟩
  rw [h, if_neg hc]
  exact he
theorem getO_ok {W W' : World} {k : Int} {l : List UInt8} {e : Ending} {o : Obt} (h : getO k l = (o, 0)) (A : Option Addr) (c : Nat) (B : Option Addr) (d : Nat) (he : e = .returned (.tuple #[.agg (objL o A o.ents.length c B o.com.ps.length d).toArray, .int .i64 0]))
    (h1 : RowQ W' W.heap.size 27 34 (.slice A o.ents.length c) o.ents.length (entE.row o.ents)) (h2 : RowQ W' W.heap.size 25 32 (.slice B o.com.ps.length d) o.com.ps.length (rowI o.com.ps)) (hb : Below W.heap.size W W') : GetOPost W k l e W' := by
  refine ⟨hb, ?_⟩
  rw [h, if_pos rfl]
  exact ⟨A, c, B, d, he, h1, h2⟩
/-- The result's variable, the object's. -/
structure GtO (W w : World) (g0 g1 : Nat) (cs : List Value) : Prop where
  res : Blk w g0 64 zeroO
  cur : Blk w g1 64 cs
  low : Below W.heap.size W w
  p0 : W.heap.size ≤ g0
  p1 : W.heap.size ≤ g1
  ne : g0 ≠ g1
theorem GtO.start (W : World) (k : Int) : GtO W (((W.alloc (.cells zeroO.toArray 64)).alloc (.cells zeroO.toArray 64)).setRow (W.heap.size + 1) (objL ⟨k, [], [], noCom⟩ none 0 0 none 0 0).toArray) W.heap.size (W.heap.size + 1) (objL ⟨k, [], [], noCom⟩ none 0 0 none 0 0) := by
  have z1 := Blk.new (W.alloc (.cells zeroO.toArray 64)) 64 zeroO
  rw [hsz] at z1
  exact ⟨((Blk.new W 64 zeroO).alloc _).rowFar (by omega) _, z1.row _, below_setRow' (((Below.refl _ _).alloc (Nat.le_refl _) _).alloc (by rw [hsz]; omega) _) (by omega) _, Nat.le_refl _, by omega, by omega⟩
theorem GtO.below {W w w' : World} {g0 g1 : Nat} {cs : List Value} (h : GtO W w g0 g1 cs) (hb : Below w.heap.size w w') : GtO W w' g0 g1 cs :=
  ⟨h.res.below hb, h.cur.below hb, h.low.trans (hb.mono h.low.size), h.p0, h.p1, h.ne⟩
theorem GtO.set {W w : World} {g0 g1 : Nat} {cs : List Value} (h : GtO W w g0 g1 cs) (j : Nat) (v : Value) : GtO W (w.setCell ⟨g1, j, none⟩ v) g0 g1 (cs.set j v) :=
  ⟨h.res.far h.ne _, h.cur.setCell j v, below_setCell' h.low _ _ h.p1 _, h.p0, h.p1, h.ne⟩
theorem GtO.mid {W w : World} {g0 g1 : Nat} {cs : List Value} (h : GtO W w g0 g1 cs) (vs : List Value) (o : Nat) (hl : o + vs.length ≤ cs.length) : GtO W (w.setCells g1 o vs) g0 g1 (cs.take o ++ vs ++ cs.drop (o + vs.length)) := by
  refine ⟨(heap_setCells_other g1 g0 h.ne vs o w).trans h.res, Blk.setCells vs o w _ h.cur hl, h.low.trans ⟨(setCells_os g1 vs o w).1, (setCells_os g1 vs o w).2.1, (setCells_os g1 vs o w).2.2, by rw [size_setCells]; exact Nat.le_refl _, fun k hk => heap_setCells_other g1 k (by have := h.p1; omega) _ o w⟩, h.p0, h.p1, h.ne⟩
theorem objL_com (k : Int) (c : Com) (A : Option Addr) (m d : Nat) : (objL ⟨k, [], [], noCom⟩ none 0 0 none 0 0).take 3 ++ comL c A m d ++ (objL ⟨k, [], [], noCom⟩ none 0 0 none 0 0).drop (3 + (comL c A m d).length) = objL ⟨k, [], [], c⟩ none 0 0 A m d := by
  rw [List.drop_of_length_le (by rw [objL_len, comL_len]; omega), List.append_nil]
  unfold objL
  rfl
set_option maxRecDepth 20000 in
set_option maxHeartbeats 6400000 in
theorem objGet_1 (W : World) (k : Int) (s : ByteArray) (l : List UInt8) (hl : l = s.data.toList) (_hs : s.size < 4294967281) (_hG : Gl W) (_hE : Ge W) (hk : k = 1) : Calls Tryz.prog 34 #[.int .i64 k, .string s] W (GetOPost W k l) := by
  have hls : l.length = s.size := by rw [hl, ← ba_size]
  have I0 := GtO.start W k
  have bu := built_kindO k
  have io := infoO ⟨k, [], [], noCom⟩ none 0 0 none 0 0
  have lo := objL_len ⟨k, [], [], noCom⟩ none 0 0 none 0 0
  have oo := objL_one ⟨k, [], [], noCom⟩ none 0 0 none 0 0
  obtain ⟨c0, hc0⟩ : ∃ c0, c0 = objL ⟨k, [], [], noCom⟩ none 0 0 none 0 0 := ⟨_, rfl⟩
  rw [← hc0] at I0 bu io lo oo
  have HC0 := Lib.hid hc0
  have BU := Lib.hid bu
  have IO := Lib.hid io
  have LO := Lib.hid lo
  have OO := Lib.hid oo
  obtain ⟨w1, hw1⟩ : ∃ w1, w1 = W.alloc (.cells zeroO.toArray 64) := ⟨_, rfl⟩
  have hz1 : w1.heap.size = W.heap.size + 1 := by rw [hw1, hsz]
  rw [← hw1] at I0
  have KI := Lib.hid I0
  have HW1 := Lib.hid hw1
  have HZ1 := Lib.hid hz1
  have HL := Lib.hid hl
  have HLS := Lib.hid hls
  subst hk
  clear _hs _hG _hE hl hls bu io lo oo hc0 I0 hw1 hz1
  go_enter Tryz.func34, Tryz.ntmps34
  go_upto_region 1 with fail
  change Code.wp _ _ _ _ (W.alloc (.cells zeroO.toArray 64))
  rw [← HW1.out]
  go_upto_region 2 with (first
    | (refine wpl_buildP rfl 64 _ rfl c0 BU.out ?_)
    | (refine wpl_storeS rfl 64 (.tmp 6) _ rfl w1.heap.size c0 rfl rfl 64 zeroO (Blk.new w1 _ _) IO.out (by rw [LO.out]; rfl) OO.out ?_))
  change Code.wp _ _ _ _ ((w1.alloc (.cells zeroO.toArray 64)).setRow w1.heap.size c0.toArray)
  rw [HZ1.out]
  generalize (w1.alloc (.cells zeroO.toArray 64)).setRow (W.heap.size + 1) c0.toArray = v0 at KI ⊢
  obtain ⟨g1, hg1⟩ : ∃ g1, g1 = W.heap.size + 1 := ⟨_, rfl⟩
  rw [← hg1] at KI
  rw [← hg1]
  obtain ⟨g0, hg0⟩ : ∃ g0, g0 = W.heap.size := ⟨_, rfl⟩
  rw [← hg0] at KI
  rw [← hg0]
  have HG0 := Lib.hid hg0
  clear hg0 hg1 HW1 HZ1 BU
  obtain ⟨⟨v1, hc1⟩, hf1⟩ : (∃ v, v0.cell? ⟨g1, 1, none⟩ = some v) ∧ v0.frozen? ⟨g1, 1, none⟩ = false := ⟨⟨_, KI.out.cur.cell 1 _ (List.getElem?_eq_getElem (by rw [LO.out]; omega))⟩, KI.out.cur.frozen 1⟩
  have K2 : Hid (GtO W (v0.setCell ⟨g1, 1, none⟩ (.string s)) g0 g1 (objL ⟨1, l, [], noCom⟩ none 0 0 none 0 0)) := Lib.hid (by
    have := KI.out.set 1 (.string s)
    rw [HC0.out] at this
    have e : s = ⟨l.toArray⟩ := ba_back s l HL.out
    rw [e] at this ⊢
    exact this)
  have ls := HLS.out
  by_cases hz : l.length ≤ 1000
  · have iz : ¬ ((1000 : Int) < (s.size : Int)) := by omega
    have hget := Lib.hid (show getO 1 l = (⟨1, l, [], noCom⟩, 0) by unfold getO; rw [if_pos rfl, if_pos hz])
    have i2 := Lib.hid (infoO ⟨1, l, [], noCom⟩ none 0 0 none 0 0)
    have l2 := Lib.hid (objL_len ⟨1, l, [], noCom⟩ none 0 0 none 0 0)
    have o2 := Lib.hid (objL_one ⟨1, l, [], noCom⟩ none 0 0 none 0 0)
    obtain ⟨c2, hc2⟩ : ∃ c2, c2 = objL ⟨1, l, [], noCom⟩ none 0 0 none 0 0 := ⟨_, rfl⟩
    rw [← hc2] at K2 i2 l2 o2
    have HC2 := Lib.hid hc2
    clear hz ls hc2
    go_wp2_with (first
      | (refine wpl_loadS rfl 64 (.tmp 6) rfl ⟨g1, 0, none⟩ rfl c2 Tryz.isAgg64 i2.out (fun j u hu => by rw [addr_row _ rfl, Nat.zero_add]; exact K2.out.cur.cell j u hu) ?_)
      | (refine wpl_storeS rfl 64 (.tmp 4) _ rfl g0 c2 rfl rfl 64 zeroO K2.out.res i2.out (by rw [l2.out]; rfl) o2.out ?_))
    refine bodyPost_ret (res_rowS2 rfl _ _ g0 64 c2 _ rfl (K2.out.res.row _) Tryz.underlying64 rfl i2.out) rfl ?_
    exact getO_ok hget.out none 0 none 0 (by rw [HC2.out]; rfl) (RowQ.nil _ _ _ _) (RowQ.nil _ _ _ _) (below_setRow' K2.out.low K2.out.p0 _)
  · have iz : (1000 : Int) < (s.size : Int) := by omega
    have hget := Lib.hid (show getO 1 l = (noOb, 5) by unfold getO; rw [if_pos rfl, if_neg hz])
    clear hz ls
    go_wp2_with (first
      | (refine wpl_build rfl 64 _ rfl zeroO (by kernel_rfl) ?_)
      | (refine wpl_storeS rfl 64 (.tmp 4) _ rfl g0 zeroO rfl rfl 64 zeroO K2.out.res infoZO rfl zeroO_one ?_))
    refine bodyPost_ret (res_rowS2 rfl _ _ g0 64 zeroO _ rfl (K2.out.res.row _) Tryz.underlying64 rfl infoZO) rfl ?_
    exact getO_err hget.out (by decide) rfl (below_setRow' K2.out.low K2.out.p0 _)
set_option maxRecDepth 20000 in
set_option maxHeartbeats 6400000 in
theorem objGet_0 (W : World) (k : Int) (s : ByteArray) (l : List UInt8) (hl : l = s.data.toList) (_hs : s.size < 4294967281) (_hG : Gl W) (_hE : Ge W) (hk : k ≠ 1 ∧ k ≠ 2 ∧ k ≠ 3) : Calls Tryz.prog 34 #[.int .i64 k, .string s] W (GetOPost W k l) := by
  have hls : l.length = s.size := by rw [hl, ← ba_size]
  have I0 := GtO.start W k
  have bu := built_kindO k
  have io := infoO ⟨k, [], [], noCom⟩ none 0 0 none 0 0
  have lo := objL_len ⟨k, [], [], noCom⟩ none 0 0 none 0 0
  have oo := objL_one ⟨k, [], [], noCom⟩ none 0 0 none 0 0
  obtain ⟨c0, hc0⟩ : ∃ c0, c0 = objL ⟨k, [], [], noCom⟩ none 0 0 none 0 0 := ⟨_, rfl⟩
  rw [← hc0] at I0 bu io lo oo
  have HC0 := Lib.hid hc0
  have BU := Lib.hid bu
  have IO := Lib.hid io
  have LO := Lib.hid lo
  have OO := Lib.hid oo
  obtain ⟨w1, hw1⟩ : ∃ w1, w1 = W.alloc (.cells zeroO.toArray 64) := ⟨_, rfl⟩
  have hz1 : w1.heap.size = W.heap.size + 1 := by rw [hw1, hsz]
  rw [← hw1] at I0
  have KI := Lib.hid I0
  have HW1 := Lib.hid hw1
  have HZ1 := Lib.hid hz1
  have HL := Lib.hid hl
  have HLS := Lib.hid hls
  have hget := Lib.hid (show getO k l = (noOb, 1) by unfold getO; rw [if_neg hk.1, if_neg hk.2.1, if_neg hk.2.2])
  have f1 : (k == (1 : Int)) = false := by simpa using hk.1
  have f2 : (k == (2 : Int)) = false := by simpa using hk.2.1
  have f3 : (k == (3 : Int)) = false := by simpa using hk.2.2
  clear hk
  clear _hs _hG _hE hl hls bu io lo oo hc0 I0 hw1 hz1
  go_enter Tryz.func34, Tryz.ntmps34
  go_upto_region 1 with fail
  change Code.wp _ _ _ _ (W.alloc (.cells zeroO.toArray 64))
  rw [← HW1.out]
  go_upto_region 2 with (first
    | (refine wpl_buildP rfl 64 _ rfl c0 BU.out ?_)
    | (refine wpl_storeS rfl 64 (.tmp 6) _ rfl w1.heap.size c0 rfl rfl 64 zeroO (Blk.new w1 _ _) IO.out (by rw [LO.out]; rfl) OO.out ?_))
  change Code.wp _ _ _ _ ((w1.alloc (.cells zeroO.toArray 64)).setRow w1.heap.size c0.toArray)
  rw [HZ1.out]
  generalize (w1.alloc (.cells zeroO.toArray 64)).setRow (W.heap.size + 1) c0.toArray = v0 at KI ⊢
  obtain ⟨g1, hg1⟩ : ∃ g1, g1 = W.heap.size + 1 := ⟨_, rfl⟩
  rw [← hg1] at KI
  rw [← hg1]
  obtain ⟨g0, hg0⟩ : ∃ g0, g0 = W.heap.size := ⟨_, rfl⟩
  rw [← hg0] at KI
  rw [← hg0]
  have HG0 := Lib.hid hg0
  clear hg0 hg1 HW1 HZ1 BU
  go_wp2_with (first
    | (refine wpl_build rfl 64 _ rfl zeroO (by kernel_rfl) ?_)
    | (refine wpl_storeS rfl 64 (.tmp 4) _ rfl g0 zeroO rfl rfl 64 zeroO KI.out.res infoZO rfl zeroO_one ?_))
  refine bodyPost_ret (res_rowS2 rfl _ _ g0 64 zeroO _ rfl (KI.out.res.row _) Tryz.underlying64 rfl infoZO) rfl ?_
  exact getO_err hget.out (by decide) rfl (below_setRow' KI.out.low KI.out.p0 _)
end Go.Proofs.YticcianbphljpaaGreatDoor
namespace Go.Proofs.YticcianbphljpaaGreatDoor
open Go.RowKit
set_option maxRecDepth 20000 in
set_option maxHeartbeats 6400000 in
theorem objGet_2 (W : World) (k : Int) (s : ByteArray) (l : List UInt8) (hl : l = s.data.toList) (hs : s.size < 4294967281) (hG : Gl W) (_hE : Ge W) (hk : k = 2) : Calls Tryz.prog 34 #[.int .i64 k, .string s] W (GetOPost W k l) := by
  have hls : l.length = s.size := by rw [hl, ← ba_size]
  have I0 := GtO.start W k
  have bu := built_kindO k
  have io := infoO ⟨k, [], [], noCom⟩ none 0 0 none 0 0
  have lo := objL_len ⟨k, [], [], noCom⟩ none 0 0 none 0 0
  have oo := objL_one ⟨k, [], [], noCom⟩ none 0 0 none 0 0
  obtain ⟨c0, hc0⟩ : ∃ c0, c0 = objL ⟨k, [], [], noCom⟩ none 0 0 none 0 0 := ⟨_, rfl⟩
  rw [← hc0] at I0 bu io lo oo
  have HC0 := Lib.hid hc0
  have BU := Lib.hid bu
  have IO := Lib.hid io
  have LO := Lib.hid lo
  have OO := Lib.hid oo
  obtain ⟨w1, hw1⟩ : ∃ w1, w1 = W.alloc (.cells zeroO.toArray 64) := ⟨_, rfl⟩
  have hz1 : w1.heap.size = W.heap.size + 1 := by rw [hw1, hsz]
  rw [← hw1] at I0
  have KI := Lib.hid I0
  have HW1 := Lib.hid hw1
  have HZ1 := Lib.hid hz1
  have HL := Lib.hid hl
  have HLS := Lib.hid hls
  subst hk
  have HG := Lib.hid hG
  have HS := Lib.hid hs
  clear hs hG _hE hl hls bu io lo oo hc0 I0 hw1 hz1
  go_enter Tryz.func34, Tryz.ntmps34
  go_upto_region 1 with fail
  change Code.wp _ _ _ _ (W.alloc (.cells zeroO.toArray 64))
  rw [← HW1.out]
  go_upto_region 2 with (first
    | (refine wpl_buildP rfl 64 _ rfl c0 BU.out ?_)
    | (refine wpl_storeS rfl 64 (.tmp 6) _ rfl w1.heap.size c0 rfl rfl 64 zeroO (Blk.new w1 _ _) IO.out (by rw [LO.out]; rfl) OO.out ?_))
  change Code.wp _ _ _ _ ((w1.alloc (.cells zeroO.toArray 64)).setRow w1.heap.size c0.toArray)
  rw [HZ1.out]
  generalize (w1.alloc (.cells zeroO.toArray 64)).setRow (W.heap.size + 1) c0.toArray = v0 at KI ⊢
  obtain ⟨g1, hg1⟩ : ∃ g1, g1 = W.heap.size + 1 := ⟨_, rfl⟩
  rw [← hg1] at KI
  rw [← hg1]
  obtain ⟨g0, hg0⟩ : ∃ g0, g0 = W.heap.size := ⟨_, rfl⟩
  rw [← hg0] at KI
  rw [← hg0]
  have HG0 := Lib.hid hg0
  clear hg0 hg1 HW1 HZ1 BU
  have cT := treeGet_any v0 s l HL.out HS.out (HG.out.below KI.out.low)
  unfold GetTPost at cT
  have lo := LO.out
  have hg : getO 2 l = match getT l with | some es => (⟨2, [], es, noCom⟩, 0) | none => (noOb, 1) := by unfold getO; rw [if_neg (by omega), if_pos rfl]; cases getT l <;> rfl
  cases hq : getT l with
  | none =>
    rw [hq] at cT hg
    simp only at cT hg
    have HGT := Lib.hid hg
    have CT := Lib.hid cT
    clear cT hg hq lo
    go_wp2_with (first
      | (go_at_call 24; refine CT.out.mono ?_; rintro e v1 ⟨rfl, h1⟩; have K1 := Lib.hid (KI.out.below h1); clear h1; obtain ⟨⟨u2, hc2⟩, hf2⟩ : (∃ v, v1.cell? ⟨g1, 2, none⟩ = some v) ∧ v1.frozen? ⟨g1, 2, none⟩ = false := ⟨⟨_, K1.out.cur.cell 2 _ (List.getElem?_eq_getElem (by rw [LO.out]; omega))⟩, K1.out.cur.frozen 2⟩; have K2 := Lib.hid (K1.out.set 2 (.slice none 0 0)))
      | (refine wpl_build rfl 64 _ rfl zeroO (by kernel_rfl) ?_)
      | (refine wpl_storeS rfl 64 (.tmp 4) _ rfl g0 zeroO rfl rfl 64 zeroO K2.out.res infoZO rfl zeroO_one ?_))
    refine bodyPost_ret (res_rowS2 rfl _ _ g0 64 zeroO _ rfl (K2.out.res.row _) Tryz.underlying64 rfl infoZO) rfl ?_
    exact getO_err HGT.out (by decide) rfl (below_setRow' K2.out.low K2.out.p0 _)
  | some es =>
    rw [hq] at cT hg
    simp only at cT hg
    have HGT := Lib.hid hg
    have CT := Lib.hid cT
    have HV := Lib.hid KI.out.low.size
    clear cT hg hq lo
    go_wp2_with (first
      | (go_at_call 24; refine CT.out.mono ?_; rintro e v1 ⟨A, c, rfl, hr, h1⟩; have K1 := Lib.hid (KI.out.below h1); have RQ := Lib.hid hr; have gq : g1 < v0.heap.size := KI.out.cur.lt; have gp : g0 < v0.heap.size := KI.out.res.lt; have N1 := Lib.hid (show (Value.slice A es.length c).ownBlock ≠ some g1 from fun e => by have := (hr.lt _ e).1; omega); have N0 := Lib.hid (show (Value.slice A es.length c).ownBlock ≠ some g0 from fun e => by have := (hr.lt _ e).1; omega); clear hr h1 gq gp; obtain ⟨⟨u2, hc2⟩, hf2⟩ : (∃ v, v1.cell? ⟨g1, 2, none⟩ = some v) ∧ v1.frozen? ⟨g1, 2, none⟩ = false := ⟨⟨_, K1.out.cur.cell 2 _ (List.getElem?_eq_getElem (by rw [LO.out]; omega))⟩, K1.out.cur.frozen 2⟩; have K2 : Hid (GtO W (v1.setCell ⟨g1, 2, none⟩ (.slice A es.length c)) g0 g1 (objL ⟨2, [], es, noCom⟩ A es.length c none 0 0)) := Lib.hid (by have := K1.out.set 2 (.slice A es.length c); rw [HC0.out] at this; exact this); have RQ2 := Lib.hid ((RQ.out.far N1.out (.slice A es.length c) (p := ⟨g1, 2, none⟩)).mono HV.out))
      | (refine wpl_loadS rfl 64 (.tmp 6) rfl ⟨g1, 0, none⟩ rfl (objL ⟨2, [], es, noCom⟩ A es.length c none 0 0) Tryz.isAgg64 (infoO _ _ _ _ _ _ _) (fun j u hu => by rw [addr_row _ rfl, Nat.zero_add]; exact K2.out.cur.cell j u hu) ?_)
      | (refine wpl_storeS rfl 64 (.tmp 4) _ rfl g0 (objL ⟨2, [], es, noCom⟩ A es.length c none 0 0) rfl rfl 64 zeroO K2.out.res (infoO _ _ _ _ _ _ _) (by rw [objL_len]; rfl) (objL_one _ _ _ _ _ _ _) ?_))
    refine bodyPost_ret (res_rowS2 rfl _ _ g0 64 (objL ⟨2, [], es, noCom⟩ A es.length c none 0 0) _ rfl (K2.out.res.row _) Tryz.underlying64 rfl (infoO _ _ _ _ _ _ _)) rfl ?_
    exact getO_ok HGT.out A c none 0 rfl (RQ2.out.rowFar N0.out _) (RowQ.nil _ _ _ _) (below_setRow' K2.out.low K2.out.p0 _)
end Go.Proofs.YticcianbphljpaaGreatDoor
namespace Go.Proofs.YticcianbphljpaaGreatDoor
open Go.RowKit
theorem dec_int (x y : Int) : (x == y) = decide (x = y) := by
  by_cases h : x = y <;> simp [h]
set_option maxRecDepth 20000 in
set_option maxHeartbeats 6400000 in
theorem objEq_any (W : World) (a b : Obt) (A1 : Option Addr) (n1 k1 : Nat) (B1 : Option Addr) (m1 d1 : Nat) (A2 : Option Addr) (n2 k2 : Nat) (B2 : Option Addr) (m2 d2 : Nat) (ha : ObAt W a A1 n1 k1 B1 m1 d1) (hb : ObAt W b A2 n2 k2 B2 m2 d2)
    (h1 : n1 ≤ 1099511627776) (h2 : n2 ≤ 1099511627776) (h3 : m1 ≤ 1099511627776) (h4 : m2 ≤ 1099511627776) :
    Calls Tryz.prog 40 #[.agg (objL a A1 n1 k1 B1 m1 d1).toArray, .agg (objL b A2 n2 k2 B2 m2 d2).toArray] W fun e W' => e = .returned (.bool (eqO a b)) ∧ Below W.heap.size W W' := by
  obtain ⟨ba, hba⟩ : ∃ ba : ByteArray, ba = ⟨a.blob.toArray⟩ := ⟨_, rfl⟩
  obtain ⟨bb, hbb⟩ : ∃ bb : ByteArray, bb = ⟨b.blob.toArray⟩ := ⟨_, rfl⟩
  have K1 := (ObBlk.of (Blk.new W 64 (objL a A1 n1 k1 B1 m1 d1))).below (((Below.refl _ (W.alloc (.cells (objL a A1 n1 k1 B1 m1 d1).toArray 64))).alloc (Nat.le_refl _) (.cells (objL b A2 n2 k2 B2 m2 d2).toArray 64)))
  have K2 := ObBlk.of (Blk.new (W.alloc (.cells (objL a A1 n1 k1 B1 m1 d1).toArray 64)) 64 (objL b A2 n2 k2 B2 m2 d2))
  rw [← hba] at K1
  rw [← hbb, hsz] at K2
  have l0 := ((Below.refl W.heap.size W).alloc (Nat.le_refl _) (.cells (objL a A1 n1 k1 B1 m1 d1).toArray 64)).alloc (by rw [hsz]; omega) (.cells (objL b A2 n2 k2 B2 m2 d2).toArray 64)
  obtain ⟨cs1, hcs1⟩ : ∃ cs, cs = objL a A1 n1 k1 B1 m1 d1 := ⟨_, rfl⟩
  obtain ⟨cs2, hcs2⟩ : ∃ cs, cs = objL b A2 n2 k2 B2 m2 d2 := ⟨_, rfl⟩
  obtain ⟨w0, hw0⟩ : ∃ w0, w0 = (W.alloc (.cells (objL a A1 n1 k1 B1 m1 d1).toArray 64)).alloc (.cells (objL b A2 n2 k2 B2 m2 d2).toArray 64) := ⟨_, rfl⟩
  rw [← hw0] at K1 K2 l0
  rw [← hcs1, ← hcs2] at hw0 ⊢
  have S1 := entE.src_below ha.row l0
  have S2 := entE.src_below hb.row l0
  obtain ⟨g1, hg1⟩ : ∃ g1, g1 = W.heap.size := ⟨_, rfl⟩
  obtain ⟨g2, hg2⟩ : ∃ g2, g2 = W.heap.size + 1 := ⟨_, rfl⟩
  rw [← hg1] at K1
  rw [← hg2] at K2
  have x0 := K1.kd
  have x1 := K1.blob
  have x2 := K1.ents
  have y0 := K2.kd
  have y1 := K2.blob
  have y2 := K2.ents
  have XC : Hid (∀ w', Below w0.heap.size w0 w' → ∀ j v, (comL a.com B1 m1 d1)[j]? = some v → w'.cell? ((⟨g1, 3, none⟩ : Addr).add j) = some v) := Lib.hid fun w' hw j v hv => (K1.below hw).com j v hv
  have YC : Hid (∀ w', Below w0.heap.size w0 w' → ∀ j v, (comL b.com B2 m2 d2)[j]? = some v → w'.cell? ((⟨g2, 3, none⟩ : Addr).add j) = some v) := Lib.hid fun w' hw j v hv => (K2.below hw).com j v hv
  have IA := Lib.hid (infoC a.com B1 m1 d1)
  have IB := Lib.hid (infoC b.com B2 m2 d2)
  have cE := entsEqual_any w0 A1 A2 n1 k1 n2 k2 a.ents b.ents S1 S2 h1 h2
  have cC : ∀ w, Below w0.heap.size w0 w → Calls Tryz.prog 30 #[.agg (comL a.com B1 m1 d1).toArray, .agg (comL b.com B2 m2 d2).toArray] w fun e w' => e = .returned (.bool (eqC a.com b.com)) ∧ Below w.heap.size w w' := fun w hw =>
    commitEq_any w a.com b.com B1 m1 d1 B2 m2 d2 (ha.com.below (l0.trans (hw.mono l0.size))) (hb.com.below (l0.trans (hw.mono l0.size))) h3 h4
  have hkk := dec_int a.kd b.kd
  have hnn := dec_note a.blob b.blob ba bb hba hbb
  obtain ⟨r, hr⟩ : ∃ r, r = eqO a b := ⟨_, rfl⟩
  rw [← hr]
  unfold eqO at hr
  generalize decide (a.kd = b.kd) = t at hkk hr
  generalize decide (a.blob = b.blob) = p at hnn hr
  generalize decide (a.ents = b.ents) = q at cE hr
  generalize eqC a.com b.com = u at cC hr
  generalize a.kd = ka at x0 hkk
  generalize b.kd = kb at y0 hkk
  generalize comL a.com B1 m1 d1 = ca at XC IA cC
  generalize comL b.com B2 m2 d2 = cb at YC IB cC
  have CE := Lib.hid cE
  have CC := Lib.hid cC
  have L0 := Lib.hid l0
  clear ha hb K1 K2 l0 S1 S2 cE cC hcs1 hcs2 hba hbb h1 h2 h3 h4
  go_enter Tryz.func40, Tryz.ntmps40
  go_upto_region 1 with fail
  change Code.wp _ _ _ _ ((W.alloc (.cells cs1.toArray 64)).alloc (.cells cs2.toArray 64))
  rw [← hw0, ← hg2, ← hg1]
  clear hw0 hg1 hg2
  cases t
  · skip
    have HR := Lib.hid (show r = false by rw [hr]; rfl)
    clear hr
    go_wp2
    go_ret
    exact ⟨by rw [HR.out]; rfl, L0.out⟩
  · cases p
    · skip
      have HR := Lib.hid (show r = false by rw [hr]; rfl)
      clear hr
      go_wp2
      go_ret
      exact ⟨by rw [HR.out]; rfl, L0.out⟩
    · cases q
      · skip
        have HR := Lib.hid (show r = false by rw [hr]; rfl)
        clear hr
        go_wp2_with (go_at_call 73; refine CE.out.mono ?_; rintro e w1 ⟨rfl, hb1⟩; have B1 := Lib.hid hb1; clear hb1)
        go_ret
        exact ⟨by rw [HR.out]; rfl, L0.out.trans (B1.out.mono L0.out.size)⟩
      · skip
        have HR := Lib.hid (show r = u by rw [hr]; rfl)
        clear hr
        go_wp2_with (first
          | (go_at_call 73; refine CE.out.mono ?_; rintro e w1 ⟨rfl, hb1⟩; have B1 := Lib.hid hb1; have xc := Lib.hid (XC.out _ hb1); have yc := Lib.hid (YC.out _ hb1); clear hb1)
          | (refine wpl_guard (by rfl) ?_; refine wpl_loadS rfl 34 (.tmp 25) rfl ⟨g1, 3, none⟩ rfl ca Tryz.isAgg34 IA.out xc.out ?_)
          | (refine wpl_guard (by rfl) ?_; refine wpl_loadS rfl 34 (.tmp 27) rfl ⟨g2, 3, none⟩ rfl cb Tryz.isAgg34 IB.out yc.out ?_)
          | (go_at_call 30; refine (CC.out _ B1.out).mono ?_; rintro e w2 ⟨rfl, hb2⟩; have B2 := Lib.hid (B1.out.trans (hb2.mono B1.out.size)); clear hb2))
        go_ret
        exact ⟨by rw [HR.out]; rfl, L0.out.trans (B2.out.mono L0.out.size)⟩
end Go.Proofs.YticcianbphljpaaGreatDoor
namespace Go.Proofs.YticcianbphljpaaGreatDoor
open Go.RowKit
def idOf (b : UInt8) : Idt := ⟨b :: List.replicate 31 0, rfl⟩
def ent1 : Ent := ⟨[97], false, idOf 1⟩
def ent2 : Ent := ⟨[98], true, idOf 2⟩
def ents2 : List Ent := [ent1, ent2]
def com7 : Com := ⟨idOf 3, [idOf 4], 4619567317775286272, [110]⟩
def ob2 : Obt := ⟨2, [], ents2, noCom⟩
theorem ents2_may : mayT ents2 = true := by decide +kernel
theorem ents2_get : getT (treeB ents2) = some ents2 := by decide +kernel
theorem ents2_fit : NamesFit ents2 := fun e he => by
  rcases List.mem_cons.1 he with rfl | h
  · exact Nat.le_of_ble_eq_true rfl
  · rw [List.mem_singleton.1 h]; exact Nat.le_of_ble_eq_true rfl
theorem com7_may : mayC com7 = true := by
  rw [mayC_unlike com7 (fun i hi => by
    have : i = 0 := by simp [com7] at hi; omega
    subst this
    simp)]
  have : fmay 4619567317775286272 = true := by kernel_rfl
  simp [com7, this]
theorem com7_get : getC (commitB com7) = some com7 := getC_put com7 (by decide) com7_may
theorem eqC_self (c : Com) : eqC c c = true := by simp [eqC]
theorem eqO_self (o : Obt) : eqO o o = true := by simp [eqO, eqC_self]
theorem ob2_may : mayO ob2 = true := by
  unfold mayO
  rw [if_neg (by decide), if_pos (show ob2.kd = 2 from rfl)]
  show (decide ((([] : List UInt8)) = []) && eqC noCom noCom && mayT ents2) = true
  rw [eqC_self, ents2_may]
  rfl
theorem ob2_get : getO 2 (treeB ents2) = (ob2, 0) := by
  unfold getO
  rw [if_neg (by decide), if_pos rfl, ents2_get]
  rfl
theorem ents2_find : findE ents2 [98] = (ent2, true) := by decide +kernel
theorem path_ab : pathV [97, 47, 98] = ([[97], [98]], true) := by decide +kernel
theorem bt {a b c : World} (h1 : Below a.heap.size a b) (h2 : Below b.heap.size b c) : Below a.heap.size a c := h1.trans (h2.mono h1.size)
theorem laidS (w : World) (t : TypeId) (z cs : List Value) : Below w.heap.size w ((w.alloc (.cells z.toArray t)).setRow w.heap.size cs.toArray) ∧ Blk ((w.alloc (.cells z.toArray t)).setRow w.heap.size cs.toArray) w.heap.size t cs :=
  ⟨below_setRow' ((Below.refl _ _).alloc (Nat.le_refl _) _) (Nat.le_refl _) _, (Blk.new w t z).row _⟩
theorem built_e1 : Tryz.prog.built 27 [(0, .string ⟨#[97]⟩), (2, .agg (encI (idOf 1)).toArray)] = some (encE ent1).toArray := by
  rw [builtE, fill_one _ _ 0 _ _ 0 [.string ⟨#[97]⟩] rfl (by simp) (by simp [zeroE, encE, encI_len]), fill_one _ _ 2 _ _ 2 (encI (idOf 1)) rfl (by simp [encI_len]) (by simp [zeroE, encE, encI_len]), Instr.fill]
  simp [zeroE, encE, encI_len, ent1]
theorem built_e2 : Tryz.prog.built 27 [(0, .string ⟨#[98]⟩), (1, .bool true), (2, .agg (encI (idOf 2)).toArray)] = some (encE ent2).toArray := built_ent ⟨#[98]⟩ true (idOf 2)
theorem built_com (x : Idt) (A : Option Addr) (m d b : Nat) (nb : ByteArray) (ps : List Idt) : Tryz.prog.built 34 [(0, .agg (encI x).toArray), (1, .slice A m d), (2, .float .f64 b), (3, .string nb)] = some (comL ⟨x, ps, b, nb.data.toList⟩ A m d).toArray := by
  have hx := encI_len x
  have h0 := encI_len default
  rw [builtC, fill_one _ _ 0 _ _ 0 (encI x) rfl (by simp [hx]) (by simp [zeroC, comL_len, hx]), fill_one _ _ 1 _ _ 32 [.slice A m d] rfl (by simp) (by simp [zeroC, comL, noCom, hx, h0]), fill_one _ _ 2 _ _ 33 [.float .f64 b] rfl (by simp) (by simp [zeroC, comL, noCom, hx, h0]), fill_one _ _ 3 _ _ 34 [.string nb] rfl (by simp) (by simp [zeroC, comL, noCom, hx, h0]), Instr.fill]
  simp [zeroC, comL, noCom, hx, h0, List.take_append, List.drop_append, List.take_of_length_le, List.drop_of_length_le]
end Go.Proofs.YticcianbphljpaaGreatDoor
