/- The document's answer for names in order: Sort. -/
import Derived.Test.YtmnndehoopmmaaaGreatDoorOz
import Derived.Test.YtmnndehoopmmaaaGreatDoorSg
import Derived.Deep.CutBlock
import Derived.Great.BuildSlice
namespace Go.Proofs.YtmnndehoopmmaaaGreatDoor
open Go.RowKit Go.Sort
theorem run_upto (w : World) (A : Option Addr) (m c k : Nat) (hk : k ≤ c) :
    (Instr.sliceAt 47 (.slice A m c) none (some (.int .i64 k)) none).run Tryz.prog w = .ok (.slice A k c) w := by
  simp [Instr.sliceAt, Instr.slice, Instr.sliceBounds, Instr.sliceBound, go_sem]
  exact fun h => absurd h (by omega)
theorem run_from (w : World) (A : Option Addr) (m c k : Nat) (hk : k ≤ m) (_hc : m ≤ c) :
    (Instr.sliceAt 47 (.slice A m c) (some (.int .i64 k)) none none).run Tryz.prog w = .ok (.slice (if c = k then A else A.map (·.add (k * 32))) (m - k) (c - k)) w := by
  simp [Instr.sliceAt, Instr.slice, Instr.sliceBounds, Instr.sliceBound, go_sem]
  exact fun h => absurd h (by omega)
theorem RowQ.midI {w : World} {base : Nat} {A : Option Addr} {n c : Nat} {l : List Idt} (h : RowQ w base 51 32 (.slice A n c) n (rowI l)) (k : Nat) (hk : k ≤ n) :
    Src w 32 (if c = k then A else A.map (·.add (k * 32))) (n - k) (rowI (l.drop k)) := by
  have hl : l.length = n := by have := h.1; rw [rowI_len] at this; omega
  refine ⟨by rw [rowI_len, List.length_drop, hl], fun h0 => ?_, rowI_one _⟩
  have hs := h.src (rowI_one _)
  obtain ⟨b, o, rfl, hc⟩ := (src_names hs (by omega)).2
  have hck : c ≠ k := by
    obtain ⟨A1, c1, e, h1, _⟩ := h.shape
    injection e with _ _ e
    omega
  rw [if_neg hck]
  refine ⟨_, rfl, fun j u hu => ?_⟩
  have hj : j < (n - k) * 32 := by
    have := (List.getElem?_eq_some_iff.1 hu).1
    rwa [rowI_len, List.length_drop, hl] at this
  have e1 : rowI l = rowI (l.take k) ++ rowI (l.drop k) := by rw [← rowI_append, List.take_append_drop]
  have e2 : (rowI l)[k * 32 + j]? = some u := by
    rw [e1, List.getElem?_append_right (by rw [rowI_len, List.length_take]; omega), rowI_len, List.length_take, show k * 32 + j - min k l.length * 32 = j by rw [Nat.min_eq_left (by omega)]; omega]
    exact hu
  obtain ⟨ad, ha, hx⟩ := hs.2.1 (by omega)
  obtain rfl := Option.some.inj ha
  have := hx _ _ e2
  rw [add_row _ rfl] at this
  show w.cell? (((⟨b, o, none⟩ : Addr).add (k * 32)).add j) = some u
  rw [add_row ⟨b, o, none⟩ rfl, add_row _ rfl]
  simpa [Nat.add_assoc] using this
/-- The names put in so far. -/
def OutI (W : World) (l : List Idt) (i : Nat) (v : Value) (wr : World) : Prop := RowQ wr W.heap.size 51 32 v (putI (l.take i)).length (rowI (putI (l.take i))) ∧ Below W.heap.size W wr
theorem putI_next (l : List Idt) (i k : Nat) (hi : i < l.length) (hk : k ≤ (putI (l.take i)).length) (h1 : ∀ j, j < k → ilt (putI (l.take i))[j]! l[i]! = true) (h2 : k < (putI (l.take i)).length → ilt (putI (l.take i))[k]! l[i]! = false) :
    putI (l.take (i + 1)) = if k < (putI (l.take i)).length ∧ (putI (l.take i))[k]! = l[i]! then putI (l.take i) else (putI (l.take i)).take k ++ [l[i]!] ++ (putI (l.take i)).drop k := by
  have e : l.take (i + 1) = l.take i ++ [l[i]!] := by
    rw [List.take_add_one, getElem!_pos l i hi]
    simp [hi]
  rw [e, putI_snoc]
  exact insI_at _ _ k hk h1 h2
theorem putI_len (l : List Idt) (i : Nat) : (putI (l.take i)).length ≤ l.length := by
  rw [putI_eq]
  have := sortI_len (l.take i)
  rw [List.length_take] at this
  omega
/-- A name read, as one step of a region that draws. -/
theorem step_loadA {P : Program} {ops : Array Oper} {o : Oper} {a : Act} {w : World} {K : Act → World → Prop} {Q : Exit → Act → World → Prop} {E : Prop} (hgd : Region.wanted o (yielded ops a.tmps) = true) (ty : TypeId) (x : Operand) (ho : o.op = .load ty x) (ad : Addr) (hx : a.eval x = .pointer (some ad)) (cs : List Value)
    (n : Nat) (e : TypeId) (hu : P.underlying ty = some (.array n e)) (hi : (P.info? ty).map (·.size) = some cs.length) (hc : ∀ j v, cs[j]? = some v → w.cell? (ad.add j) = some v) (h : K (a.put o.dst (.agg cs.toArray)) w) :
    if Region.wanted o (yielded ops a.tmps) = true then Oper.wp P o a w K Q else E := by
  rw [if_pos hgd]
  unfold Oper.wp execOp
  simp only [ho, hx, Sem.run_bind, Sem.run_pure, Result.andThen_ok, run_loadA w ty ad cs n e hu hi hc]
  exact h
theorem fold_set (l : List Value) : ∀ (s : Nat) (cs : Array Value), s + l.length = cs.size → (l.zipIdx s).foldl (fun cs (x : Value × Nat) => cs.setIfInBounds (0 * 32 + x.2) x.1) cs = (cs.toList.take s ++ l).toArray := by
  induction l with
  | nil =>
    intro s cs h
    simp at h
    rw [h, List.take_of_length_le (by simp)]
    simp
  | cons v r ih =>
    intro s cs h
    simp only [List.length_cons] at h
    rw [List.zipIdx_cons, List.foldl_cons, ih (s + 1) _ (by simp; omega)]
    congr 1
    have hs : s < cs.toList.length := by simp; omega
    simp only [Nat.zero_mul, Nat.zero_add, Array.toList_setIfInBounds]
    rw [List.take_add_one, List.getElem?_set_self hs, List.take_set_of_le (Nat.le_refl s)]
    simp
/-- A slice of one name. -/
theorem step_buildI {ops : Array Oper} {o : Oper} {a : Act} {w : World} {K : Act → World → Prop} {Q : Exit → Act → World → Prop} {E : Prop} (hgd : Region.wanted o (yielded ops a.tmps) = true) (X : Operand) (ho : o.op = .buildSlice 47 1 #[(0, X)]) (cx : List Value) (hx : a.eval X = .agg cx.toArray) (hl : cx.length = 32)
    (h : K (a.put o.dst (.slice (some ⟨w.heap.size, 0, none⟩) 1 1)) (w.alloc (.cells cx.toArray 51))) : if Region.wanted o (yielded ops a.tmps) = true then Oper.wp Tryz.prog o a w K Q else E := by
  rw [if_pos hgd]
  obtain ⟨ie, hi, hzz⟩ := Option.map_eq_some_iff.1 Tryz.infoIdz
  simp only [Prod.mk.injEq] at hzz
  obtain ⟨hz, hs, _⟩ := hzz
  refine wp_buildSlice 47 51 1 #[(0, X)] ho cx.toArray ie _ Tryz.underlying47 hi hz (by rw [hs]; decide) (by rw [hs]; decide) ?_ h
  rw [hs]
  simp only [List.map_toArray, List.map_cons, List.map_nil, hx, Instr.fill]
  have hc : (Value.agg cx.toArray).cells = cx.toArray := rfl
  rw [hc, if_neg (by simp [hl])]
  rw [← Array.foldl_toList, Array.toList_zipIdx]
  have := fold_set cx 0 ((Array.range (1 * 32)).map ((Value.agg zero32.toArray).cells[· % (Value.agg zero32.toArray).cells.size]!)) (by simp [hl])
  simpa using this
/-- The names ahead, in a row of their own; the one that is put in, in a block of its own. -/
structure Thr (B : Nat) (w0 w3 : World) (out : List Idt) (k : Nat) (x : Idt) (v1 : Value) (g : Nat) : Prop where
  row : RowQ w3 B 51 32 v1 k (rowI (out.take k))
  own : ∀ b, v1.ownBlock = some b → w0.heap.size ≤ b ∧ b < w3.heap.size
  src : Src w3 32 (some ⟨g, 0, none⟩) 1 (rowI [x])
  low : Below w0.heap.size w0 w3
theorem box_src (w : World) (x : Idt) : Src (w.alloc (.cells (encI x).toArray 51)) 32 (some ⟨w.heap.size, 0, none⟩) 1 (rowI [x]) := by
  have e : rowI [x] = encI x := by simp [rowI]
  rw [e]
  refine ⟨by rw [encI_len], fun _ => ⟨_, rfl, fun j u hu => ?_⟩, encI_one x⟩
  rw [add_row _ rfl, Nat.zero_add]
  exact (Blk.new w _ _).cell j u hu
theorem thr_a {B : Nat} {w0 w1 : World} {out : List Idt} {k : Nat} {x : Idt} {v1 : Value} (hr : RowQ w1 B 51 32 v1 k (rowI (out.take k))) (hg : w0.grownBy w1 none) (ha : v1.ownBlock = none ∨ v1.ownBlock = some w0.heap.size) :
    Thr B w0 (w1.alloc (.cells (encI x).toArray 51)) out k x v1 w1.heap.size := by
  have hl : Below w0.heap.size w0 w1 := (Below.refl _ _).grown hg (Nat.le_refl _) (fun k e => by cases e)
  refine ⟨hr.alloc _, fun b hb => ?_, box_src w1 x, hl.alloc hl.size _⟩
  have h2 := (hr.lt b hb).2
  have h3 := hsz w1 (.cells (encI x).toArray 51)
  rcases ha with h | h
  · rw [h] at hb; cases hb
  · rw [h] at hb; injection hb with hb; omega
theorem thr_b {B : Nat} {w0 w2 : World} {out : List Idt} {k : Nat} {x : Idt} {v1 : Value} (hr : RowQ w2 B 51 32 v1 k (rowI (out.take k))) (hg : (w0.alloc (.cells (encI x).toArray 51)).grownBy w2 none)
    (ha : v1.ownBlock = none ∨ v1.ownBlock = some (w0.alloc (.cells (encI x).toArray 51)).heap.size) : Thr B w0 w2 out k x v1 w0.heap.size := by
  have h3 := hsz w0 (.cells (encI x).toArray 51)
  have hl : Below w0.heap.size w0 w2 := ((Below.refl _ _).alloc (Nat.le_refl _) _).grown hg (by omega) (fun k e => by cases e)
  refine ⟨hr, fun b hb => ?_, ?_, hl⟩
  · have h2 := (hr.lt b hb).2
    rcases ha with h | h
    · rw [h] at hb; cases hb
    · rw [h] at hb; injection hb with hb; omega
  · exact (box_src w0 x).far fun ad e _ => by
      obtain rfl := Option.some.inj e
      exact hg.block _ (by show w0.heap.size < _; omega) (fun e => by cases e)
/-- The three rows, one behind the other. -/
theorem thr_end {B : Nat} {W w0 w3 w4 w5 : World} {out : List Idt} {k : Nat} {x : Idt} {v1 v2 : Value} {g : Nat} (h : Thr B w0 w3 out k x v1 g) (hW : Below W.heap.size W w0) (h4 : w3.grownBy w4 v1.ownBlock) (a4 : v2.ownBlock = v1.ownBlock ∨ v2.ownBlock = some w3.heap.size)
    (h5 : w4.grownBy w5 v2.ownBlock) : Below W.heap.size W w5 := by
  have s0 := hW.size
  have s3 := h.low.size
  have l3 := hW.trans (h.low.mono s0)
  have l4 : Below W.heap.size W w4 := l3.grown h4 (by omega) (fun b hb => by have := h.own b hb; omega)
  refine l4.grown h5 (by have := h4.size; omega) (fun b hb => ?_)
  rcases a4 with e | e
  · rw [e] at hb; have := h.own b hb; omega
  · rw [e] at hb; injection hb with hb; omega
theorem thr_out {B : Nat} {w0 w3 w4 : World} {out : List Idt} {k m c : Nat} {x : Idt} {v1 : Value} {g : Nat} {A : Option Addr} (h : Thr B w0 w3 out k x v1 g) (h4 : w3.grownBy w4 v1.ownBlock) (hr : RowQ w0 B 51 32 (.slice A m c) m (rowI out)) :
    RowQ w4 B 51 32 (.slice A m c) m (rowI out) :=
  hr.of_block fun b hb => (h4.block b (by have := (hr.lt b hb).2; have := h.low.size; omega) (fun e => by have := (hr.lt b hb).2; have := h.own b e.symm; omega)).trans (h.low.block b (hr.lt b hb).2)
set_option maxRecDepth 20000 in
set_option maxHeartbeats 8000000 in
theorem rsort_any (W : World) (A : Option Addr) (n c : Nat) (l : List Idt) (hs : Src W 32 A n (rowI l)) (hn : n ≤ 1048576) : Calls Tryz.prog 44 #[.slice A n c] W (IdsPost W (sortI l)) := by
  rw [← putI_eq]
  have S0 := Lib.hid hs
  have LN := Lib.hid (src_len hs)
  have n9 : (n : Int) ≤ 1048576 := by omega
  have HN := Lib.hid hn
  clear hs hn
  go_enter Tryz.func44, Tryz.ntmps44
  go_wp2
  go_loopw [3, 4] (fun v i wr => ∃ k : Nat, k ≤ n ∧ i = .int .i64 k ∧ OutI W l k v wr) (fun _ i _ => n - (intOf i).toNat)
  case atStart => exact ⟨0, by omega, rfl, RowQ.nil _ _ _ _, Below.refl _ _⟩
  case round =>
    obtain ⟨wo, hwo⟩ : ∃ wo, wo = wr := ⟨_, rfl⟩
    subst hwo
    obtain ⟨i, hi, rfl, hr, hb⟩ := hrel
    by_cases hlt : i < n
    · obtain ⟨A1, c1, rfl, hc1, hm1⟩ := hr.shape
      have hln := LN.out
      have hpl := putI_len l i
      obtain ⟨hl, bl, ol, rfl, _⟩ := src_names S0.out (by omega)
      have SL : ∀ w, Below W.heap.size W w → ∀ j v, (encI l[i]!)[j]? = some v → w.cell? ((⟨bl, ol + i * 32, none⟩ : Addr).add j) = some v := fun w hw => by
        obtain ⟨_, b3, o3, e3, ct3⟩ := src_names (srcI_below S0.out hw) (by omega)
        injection e3 with e3
        injection e3 with e4 e5 _
        subst e4; subst e5
        exact at_name (ct3 i hlt)
      have NXT := Lib.hid (fun k => putI_next l i k (by omega))
      obtain ⟨out, hout⟩ : ∃ out, out = putI (l.take i) := ⟨_, rfl⟩
      obtain ⟨m, hm⟩ : ∃ m, m = out.length := ⟨_, rfl⟩
      rw [← hout, ← hm] at hr hc1 hpl
      simp only [← hout, ← hm] at NXT ⊢
      have HR := Lib.hid hr
      have HB := Lib.hid hb
      have HSL := Lib.hid SL
      have m0 : m ≤ 1048576 := by have := HN.out; omega
      have mi : (m : Int) ≤ 1048576 := by omega
      have i1 : (i : Int) < (n : Int) := by omega
      have M0 := Lib.hid m0
      have HI := Lib.hid hlt
      have HM := Lib.hid hm
      have HC := Lib.hid hc1
      have HMX := Lib.hid hm1
      generalize l[i]! = x at HSL NXT
      clear hr hb SL hout hpl hln hi hlt hm m0 hc1 hm1
      go_upto_block 2 with fail
      go_cut [5] (fun kv wx => ∃ k : Nat, k ≤ m ∧ kv = .int .i64 k ∧ Below wo.heap.size wo wx ∧ (∀ j, j < k → ilt out[j]! x = true) ∧ (k < m → ilt out[k]! x = false))
      case first =>
        go_wp2_with fail
        go_loopw [5] (fun kv wr => ∃ k : Nat, k ≤ m ∧ kv = .int .i64 k ∧ Below wo.heap.size wo wr ∧ ∀ j, j < k → ilt out[j]! x = true) (fun kv _ => m - (intOf kv).toNat)
        case atStart => exact ⟨0, by omega, rfl, Below.refl _ _, fun j h => by omega⟩
        case round =>
          obtain ⟨k, hk, rfl, hbi, hall⟩ := hrel
          have BI := Lib.hid hbi
          have SR := Lib.hid (fun w (hw : Below wr.heap.size wr w) => (show Below W.heap.size W w from (HB.out.trans (BI.out.mono HB.out.size)).trans (hw.mono (by have := HB.out.size; have := BI.out.size; omega))))
          have hemp := ext_nonempty wr
          by_cases hlt : k < m
          · have k1 : (k : Int) < (m : Int) := by omega
            obtain ⟨_, b1, o1, rfl, _⟩ := src_names (HR.out.src (rowI_one _)) (by omega)
            have cO : ∀ w', (∃ s : Ext wr, w' = s.at_) → ∀ j v, (encI out[k]!)[j]? = some v → w'.cell? ((⟨b1, o1 + k * 32, none⟩ : Addr).add j) = some v := fun w' ⟨s, hw⟩ => by
              subst hw
              obtain ⟨_, b3, o3, e3, ct3⟩ := src_names (srcI_below (HR.out.src (rowI_one _)) (BI.out.trans (s.below.mono BI.out.size))) (by omega)
              injection e3 with e3
              injection e3 with e4 e5 _
              subst e4; subst e5
              exact at_name (ct3 k hlt)
            have cX : ∀ w', (∃ s : Ext wr, w' = s.at_) → ∀ j v, (encI x)[j]? = some v → w'.cell? ((⟨bl, ol + i * 32, none⟩ : Addr).add j) = some v := fun w' ⟨s, hw⟩ => by
              subst hw
              exact HSL.out _ (SR.out _ s.below)
            have cL := fun w => lessId_any w out[k]! x
            have i1' := infoI out[k]!
            have i2' := infoI x
            have HA := Lib.hid hall
            obtain ⟨b, hb⟩ : ∃ b, b = ilt out[k]! x := ⟨_, rfl⟩
            rw [← hb] at cL
            have HBB := Lib.hid hb
            have CO := Lib.hid cO
            have CX := Lib.hid cX
            have CL := Lib.hid cL
            have I1 := Lib.hid i1'
            have I2 := Lib.hid i2'
            have HK := Lib.hid hlt
            clear cO cX cL i1' i2' hall hb hlt hk hbi
            generalize encI out[k]! = cs at CO CL I1
            generalize encI x = cx at CX CL I2
            go_upto_region 6 with fail
            refine wp_region_ext (by kernel_rfl) (by kernel_rfl) ?_
            repeat (go_big_quiet_step (fail))
            refine wpQuiet_loadA (by rfl) 51 (.tmp 19) rfl ⟨b1, o1 + k * 32, none⟩ rfl cs 32 5 Tryz.underlying51 I1.out CO.out ?_
            quiet_step (fail)
            repeat (go_big_quiet_step (fail))
            refine wpQuiet_loadA (by rfl) 51 (.tmp 23) rfl ⟨bl, ol + i * 32, none⟩ rfl cx 32 5 Tryz.underlying51 I2.out CX.out ?_
            quiet_step ((go_at_call 43; exact Ext.call (CL.out _)))
            repeat (go_big_quiet_step (fail))
            refine wpQuiet_nil ?_
            rintro _ ⟨s9, rfl⟩
            cases b
            · go_wp2
              go_meet
              exact ⟨k, by have := HK.out; omega, rfl, BI.out.trans (s9.below.mono BI.out.size), HA.out, fun _ => HBB.out.symm⟩
            · go_wp2
              go_roundw
              case measure => simp [intOf]; have := HK.out; omega
              case rel => exact ⟨k + 1, by have := HK.out; omega, by go_num, BI.out.trans (s9.below.mono BI.out.size), fun j hj => by
                rcases Nat.lt_or_ge j k with h | h
                · exact HA.out j h
                · rw [show j = k by omega]; exact HBB.out.symm⟩
          · have : k = m := by omega
            subst this
            have HA := Lib.hid hall
            clear hall hlt hbi
            go_upto_region 6 with fail
            refine wp_region_ext (by kernel_rfl) (by kernel_rfl) ?_
            repeat (go_big_quiet_step (fail))
            refine wpQuiet_nil ?_
            rintro _ ⟨s9, rfl⟩
            go_wp2
            go_meet
            exact ⟨k, Nat.le_refl _, rfl, BI.out.trans (s9.below.mono BI.out.size), HA.out, fun h => absurd h (Nat.lt_irrefl _)⟩
      case rest =>
        obtain ⟨k, hk, rfl, hbi, hall, hge⟩ := hcut
        have NX := Lib.hid (NXT.out k hk hall hge)
        have BI := Lib.hid hbi
        have HK := Lib.hid hk
        clear hall hge hbi hk
        go_upto_region 8 with fail
        go_cut [43] (fun cv wx => cv = .bool (!decide (k < m ∧ out[k]! = x)) ∧ Below wo.heap.size wo wx)
        case first =>
          by_cases hlt : k < m
          · have k1 : ¬ (k : Int) = (m : Int) := by omega
            have k2 : (k : Int) < (m : Int) := by omega
            have k3 : ((k : Int) == (m : Int)) = false := by simpa using k1
            obtain ⟨_, b1, o1, rfl, _⟩ := src_names (HR.out.src (rowI_one _)) (by omega)
            have cO : ∀ w', (∃ s : Ext wc, w' = s.at_) → ∀ j v, (encI out[k]!)[j]? = some v → w'.cell? ((⟨b1, o1 + k * 32, none⟩ : Addr).add j) = some v := fun w' ⟨s, hw⟩ => by
              subst hw
              obtain ⟨_, b3, o3, e3, ct3⟩ := src_names (srcI_below (HR.out.src (rowI_one _)) (BI.out.trans (s.below.mono BI.out.size))) (by omega)
              injection e3 with e3
              injection e3 with e4 e5 _
              subst e4; subst e5
              exact at_name (ct3 k hlt)
            have cX : ∀ w', (∃ s : Ext wc, w' = s.at_) → ∀ j v, (encI x)[j]? = some v → w'.cell? ((⟨bl, ol + i * 32, none⟩ : Addr).add j) = some v := fun w' ⟨s, hw⟩ => by
              subst hw
              exact HSL.out _ ((HB.out.trans (BI.out.mono HB.out.size)).trans (s.below.mono (by have := HB.out.size; have := BI.out.size; omega)))
            have hne : ∀ w, (binOp .neq 51 (.agg (encI out[k]!).toArray) (.agg (encI x).toArray)).run Tryz.prog w = .ok (.bool (!decide (out[k]! = x))) w := fun w => neqAtI.1 out[k]! x w
            have hgu : ∀ op a b w, (eqGuard op 51 a b (.agg (encI out[k]!).toArray) (.agg (encI x).toArray)).run Tryz.prog w = .ok () w := fun op a b w => neqAtI.2 op a b out[k]! x w
            have i1' := infoI out[k]!
            have i2' := infoI x
            have hd : decide (k < m ∧ out[k]! = x) = decide (out[k]! = x) := by
              by_cases h : out[k]! = x
              · rw [decide_eq_true h, decide_eq_true ⟨hlt, h⟩]
              · rw [decide_eq_false h, decide_eq_false (fun hh => h hh.2)]
            obtain ⟨q, hq⟩ : ∃ q, q = !decide (out[k]! = x) := ⟨_, rfl⟩
            rw [← hq] at hne
            rw [← hd] at hq
            have HQ := Lib.hid hq
            have CO := Lib.hid cO
            have CX := Lib.hid cX
            have I1 := Lib.hid i1'
            have I2 := Lib.hid i2'
            clear cO cX i1' i2' hd hlt hq
            generalize encI out[k]! = cs at CO I1 hne hgu
            generalize encI x = cx at CX I2 hne hgu
            have hemp := ext_nonempty wc
            refine wp_region_ext (by kernel_rfl) (by kernel_rfl) ?_
            repeat (go_big_quiet_step (fail))
            refine wpQuiet_loadA (by rfl) 51 (.tmp 36) rfl ⟨b1, o1 + k * 32, none⟩ rfl cs 32 5 Tryz.underlying51 I1.out CO.out ?_
            quiet_step (fail)
            repeat (go_big_quiet_step (fail))
            refine wpQuiet_loadA (by rfl) 51 (.tmp 40) rfl ⟨bl, ol + i * 32, none⟩ rfl cx 32 5 Tryz.underlying51 I2.out CX.out ?_
            quiet_step (fail)
            repeat (go_big_quiet_step (fail))
            refine wpQuiet_nil ?_
            rintro _ ⟨s9, rfl⟩
            go_wp2
            go_meet
            exact ⟨congrArg Value.bool HQ.out, BI.out.trans (s9.below.mono BI.out.size)⟩
          · have : k = m := by have := HK.out; omega
            subst this
            have hd : decide (k < k ∧ out[k]! = x) = false := decide_eq_false (fun h => absurd h.1 (Nat.lt_irrefl _))
            have HD := Lib.hid hd
            clear hlt hd
            have hemp := ext_nonempty wc
            refine wp_region_ext (by kernel_rfl) (by kernel_rfl) ?_
            repeat (go_big_quiet_step (fail))
            refine wpQuiet_nil ?_
            rintro _ ⟨s9, rfl⟩
            go_wp2
            go_meet
            exact ⟨by rw [HD.out]; rfl, BI.out.trans (s9.below.mono BI.out.size)⟩
        case rest =>
          obtain ⟨rfl, hbi⟩ := hcut
          clear BI
          have BI := Lib.hid hbi
          clear hbi
          by_cases hd : k < m ∧ out[k]! = x
          · have NY : putI (l.take (i + 1)) = out := by rw [NX.out, if_pos hd]
            have HY := Lib.hid NY
            rw [decide_eq_true hd]
            clear hd NY
            go_wp2
            go_roundw
            case measure => simp [intOf]; have := HI.out; omega
            case rel =>
              refine ⟨i + 1, by have := HI.out; omega, by go_num, ?_⟩
              unfold OutI
              rw [HY.out, ← HM.out]
              exact ⟨HR.out.below (BI.out.mono (Nat.le_refl _)), HB.out.trans (BI.out.mono HB.out.size)⟩
          · have NY : putI (l.take (i + 1)) = out.take k ++ [x] ++ out.drop k := by rw [NX.out, if_neg hd]
            have HY := Lib.hid NY
            rw [decide_eq_false hd]
            clear hd NY
            go_upto_region 9 with fail
            refine wp_region_any (by kernel_rfl) ?_
            change wpAny _ _ _ _ _ _ _ (World.drew _)
            have BD := Lib.hid BI.out.drew
            generalize World.drew wc = v0 at BD ⊢
            have sl1 := fun w => run_upto w A1 m c1 k (by have := HC.out; have := HK.out; omega)
            have sl2 := fun w => run_from w A1 m c1 k HK.out HC.out
            refine wpAny_bare [0, 1, 2, 4, 5, 6, 10, 11, 12] 6 (by rfl) (by kernel_rfl) (fun _ _ _ d _ h => by cases d <;> exact h) ?_
            simp only [bareO, List.filterMap_cons, List.filterMap_nil, List.getElem?_toArray, List.getElem?_cons_succ, List.getElem?_cons_zero]
            repeat (first | quiet_step (fail) | go_big_quiet_step (fail))
            refine wpQuiet_nil ?_
            have R0 := Lib.hid (HR.out.below BD.out)
            have LW := Lib.hid (HB.out.trans (BD.out.mono HB.out.size))
            have I2 := Lib.hid (infoI x)
            obtain ⟨cx, hcx⟩ : ∃ cx, cx = encI x := ⟨_, rfl⟩
            have HCX := Lib.hid hcx
            rw [← hcx] at I2
            clear sl1 sl2 hcx
            refine wpAny_ready (rs := [3, 7]) (by kernel_rfl) (by simp) ?_
            have LX := Lib.hid (show cx.length = 32 by have := I2.out; rw [Tryz.sizeId] at this; injection this with this; exact this.symm)
            refine (AllReady.cons rfl (fun K hK => ?_) (AllReady.cons rfl (fun K hK => ?_) AllReady.nil))
            · refine step_append_Q rfl (.const (.slice none 0 0)) (.tmp 46) 47 rfl W.heap.size 51 (.agg zero32.toArray) 32 32 Tryz.underlying47 Tryz.infoIdz rfl (by decide) (.slice none 0 0) 0 [] rfl (RowQ.nil _ _ _ _) A1 k c1 (rowI (out.take k)) rfl (srcI_take (R0.out.src (rowI_one _)) k HK.out) (by have := HK.out; have := M0.out; omega) (by have := HK.out; have := M0.out; omega) LW.out.size ?_
              intro v1 w1 hr1 hg1 hat1
              rw [Nat.zero_add, List.nil_append] at hr1
              have R1 := Lib.hid hr1
              have G1 := Lib.hid hg1
              have AT1 := Lib.hid hat1
              have L1 := Lib.hid (LW.out.grown hg1 LW.out.size (fun k e => by cases e))
              clear hr1 hg1 hat1
              refine hK _ _ ?_
              clear hK K
              refine wpAny_ready (rs := [7]) (by kernel_rfl) (by simp) ?_
              refine (AllReady.cons rfl (fun K hK => ?_) AllReady.nil)
              refine step_loadA (by rfl) 51 (.tmp 50) rfl ⟨bl, ol + i * 32, none⟩ rfl cx 32 5 Tryz.underlying51 I2.out (by rw [HCX.out]; exact HSL.out _ L1.out) ?_
              refine hK _ _ ?_
              clear hK K
              refine wpAny_ready (rs := [8]) (by kernel_rfl) (by simp) ?_
              refine (AllReady.cons rfl (fun K hK => ?_) AllReady.nil)
              refine step_buildI (by rfl) (.tmp 51) rfl cx rfl LX.out ?_
              have T0 := thr_a (x := x) R1.out G1.out AT1.out
              rw [← HCX.out] at T0
              have TH := Lib.hid T0
              clear T0 R1 G1 AT1 L1
              generalize w1.heap.size = g at TH ⊢
              generalize w1.alloc (.cells cx.toArray 51) = w3 at TH ⊢
              refine hK _ _ ?_
              clear hK K
              refine wpAny_ready (rs := [9]) (by kernel_rfl) (by simp) ?_
              refine (AllReady.cons rfl (fun K hK => ?_) AllReady.nil)
              refine step_append_Q rfl (.tmp 47) (.tmp 52) 47 rfl W.heap.size 51 (.agg zero32.toArray) 32 32 Tryz.underlying47 Tryz.infoIdz rfl (by decide) v1 k (rowI (out.take k)) rfl TH.out.row (some ⟨g, 0, none⟩) 1 1 (rowI [x]) rfl TH.out.src (by have := HK.out; have := M0.out; omega) (by have := HK.out; have := M0.out; omega) (by have := LW.out.size; have := TH.out.low.size; omega) ?_
              intro v2 w4 hr2 hg2 hat2
              have R2 := Lib.hid hr2
              have G2 := Lib.hid hg2
              have AT2 := Lib.hid hat2
              clear hr2 hg2 hat2
              refine hK _ _ ?_
              clear hK K
              refine wpAny_ready (rs := [13]) (by kernel_rfl) (by simp) ?_
              refine (AllReady.cons rfl (fun K hK => ?_) AllReady.nil)
              refine step_append_Q rfl (.tmp 53) (.tmp 56) 47 rfl W.heap.size 51 (.agg zero32.toArray) 32 32 Tryz.underlying47 Tryz.infoIdz rfl (by decide) v2 (k + 1) (rowI (out.take k) ++ rowI [x]) rfl R2.out (if c1 = k then A1 else A1.map (·.add (k * 32))) (m - k) (c1 - k) (rowI (out.drop k)) rfl ((thr_out TH.out G2.out R0.out).midI k HK.out) (by have := HK.out; have := M0.out; omega) (by have := HK.out; have := M0.out; omega) (by have := LW.out.size; have := TH.out.low.size; have := G2.out.size; omega) ?_
              intro v3 w5 hr3 hg3 hat3
              have R3 := Lib.hid hr3
              have LE := Lib.hid (thr_end TH.out LW.out G2.out AT2.out hg3)
              clear hr3 hg3 hat3 G2 AT2 R2 TH
              refine hK _ _ ?_
              clear hK K
              refine wpAny_ready (rs := [14]) (by kernel_rfl) (by simp) ?_
              refine (AllReady.cons rfl (fun K hK => ?_) AllReady.nil)
              go_simp
              refine hK _ _ ?_
              clear hK K
              refine wpAny_done (by kernel_rfl) ?_ _
              go_wp2
              go_roundw
              case measure => simp [intOf]; have := HI.out; omega
              case rel =>
                refine ⟨i + 1, by have := HI.out; omega, by go_num, ?_, LE.out⟩
                have hml : m = out.length := HM.out
                rw [HY.out]
                have e1 : (out.take k ++ [x] ++ out.drop k).length = k + 1 + (m - k) := by simp; have := HK.out; omega
                rw [e1, rowI_append, rowI_append]
                exact R3.out
            · refine step_loadA (by rfl) 51 (.tmp 50) rfl ⟨bl, ol + i * 32, none⟩ rfl cx 32 5 Tryz.underlying51 I2.out (by rw [HCX.out]; exact HSL.out _ LW.out) ?_
              refine hK _ _ ?_
              clear hK K
              refine wpAny_ready (rs := [3, 8]) (by kernel_rfl) (by simp) ?_
              refine (AllReady.cons rfl (fun K hK => ?_) (AllReady.cons rfl (fun K hK => ?_) AllReady.nil))
              · refine step_append_Q rfl (.const (.slice none 0 0)) (.tmp 46) 47 rfl W.heap.size 51 (.agg zero32.toArray) 32 32 Tryz.underlying47 Tryz.infoIdz rfl (by decide) (.slice none 0 0) 0 [] rfl (RowQ.nil _ _ _ _) A1 k c1 (rowI (out.take k)) rfl (srcI_take (R0.out.src (rowI_one _)) k HK.out) (by have := HK.out; have := M0.out; omega) (by have := HK.out; have := M0.out; omega) LW.out.size ?_
                intro v1 w1 hr1 hg1 hat1
                rw [Nat.zero_add, List.nil_append] at hr1
                have R1 := Lib.hid hr1
                have G1 := Lib.hid hg1
                have AT1 := Lib.hid hat1
                have L1 := Lib.hid (LW.out.grown hg1 LW.out.size (fun k e => by cases e))
                clear hr1 hg1 hat1
                refine hK _ _ ?_
                clear hK K
                refine wpAny_ready (rs := [8]) (by kernel_rfl) (by simp) ?_
                refine (AllReady.cons rfl (fun K hK => ?_) AllReady.nil)
                refine step_buildI (by rfl) (.tmp 51) rfl cx rfl LX.out ?_
                have T0 := thr_a (x := x) R1.out G1.out AT1.out
                rw [← HCX.out] at T0
                have TH := Lib.hid T0
                clear T0 R1 G1 AT1 L1
                generalize w1.heap.size = g at TH ⊢
                generalize w1.alloc (.cells cx.toArray 51) = w3 at TH ⊢
                refine hK _ _ ?_
                clear hK K
                refine wpAny_ready (rs := [9]) (by kernel_rfl) (by simp) ?_
                refine (AllReady.cons rfl (fun K hK => ?_) AllReady.nil)
                refine step_append_Q rfl (.tmp 47) (.tmp 52) 47 rfl W.heap.size 51 (.agg zero32.toArray) 32 32 Tryz.underlying47 Tryz.infoIdz rfl (by decide) v1 k (rowI (out.take k)) rfl TH.out.row (some ⟨g, 0, none⟩) 1 1 (rowI [x]) rfl TH.out.src (by have := HK.out; have := M0.out; omega) (by have := HK.out; have := M0.out; omega) (by have := LW.out.size; have := TH.out.low.size; omega) ?_
                intro v2 w4 hr2 hg2 hat2
                have R2 := Lib.hid hr2
                have G2 := Lib.hid hg2
                have AT2 := Lib.hid hat2
                clear hr2 hg2 hat2
                refine hK _ _ ?_
                clear hK K
                refine wpAny_ready (rs := [13]) (by kernel_rfl) (by simp) ?_
                refine (AllReady.cons rfl (fun K hK => ?_) AllReady.nil)
                refine step_append_Q rfl (.tmp 53) (.tmp 56) 47 rfl W.heap.size 51 (.agg zero32.toArray) 32 32 Tryz.underlying47 Tryz.infoIdz rfl (by decide) v2 (k + 1) (rowI (out.take k) ++ rowI [x]) rfl R2.out (if c1 = k then A1 else A1.map (·.add (k * 32))) (m - k) (c1 - k) (rowI (out.drop k)) rfl ((thr_out TH.out G2.out R0.out).midI k HK.out) (by have := HK.out; have := M0.out; omega) (by have := HK.out; have := M0.out; omega) (by have := LW.out.size; have := TH.out.low.size; have := G2.out.size; omega) ?_
                intro v3 w5 hr3 hg3 hat3
                have R3 := Lib.hid hr3
                have LE := Lib.hid (thr_end TH.out LW.out G2.out AT2.out hg3)
                clear hr3 hg3 hat3 G2 AT2 R2 TH
                refine hK _ _ ?_
                clear hK K
                refine wpAny_ready (rs := [14]) (by kernel_rfl) (by simp) ?_
                refine (AllReady.cons rfl (fun K hK => ?_) AllReady.nil)
                go_simp
                refine hK _ _ ?_
                clear hK K
                refine wpAny_done (by kernel_rfl) ?_ _
                go_wp2
                go_roundw
                case measure => simp [intOf]; have := HI.out; omega
                case rel =>
                  refine ⟨i + 1, by have := HI.out; omega, by go_num, ?_, LE.out⟩
                  have hml : m = out.length := HM.out
                  rw [HY.out]
                  have e1 : (out.take k ++ [x] ++ out.drop k).length = k + 1 + (m - k) := by simp; have := HK.out; omega
                  rw [e1, rowI_append, rowI_append]
                  exact R3.out
              · refine step_buildI (by rfl) (.tmp 51) rfl cx rfl LX.out ?_
                have LB := Lib.hid ((Below.refl v0.heap.size v0).alloc (Nat.le_refl _) (.cells cx.toArray 51))
                refine hK _ _ ?_
                clear hK K
                refine wpAny_ready (rs := [3]) (by kernel_rfl) (by simp) ?_
                refine (AllReady.cons rfl (fun K hK => ?_) AllReady.nil)
                refine step_append_Q rfl (.const (.slice none 0 0)) (.tmp 46) 47 rfl W.heap.size 51 (.agg zero32.toArray) 32 32 Tryz.underlying47 Tryz.infoIdz rfl (by decide) (.slice none 0 0) 0 [] rfl (RowQ.nil _ _ _ _) A1 k c1 (rowI (out.take k)) rfl (srcI_below (srcI_take (R0.out.src (rowI_one _)) k HK.out) LB.out) (by have := HK.out; have := M0.out; omega) (by have := HK.out; have := M0.out; omega) (by have := LW.out.size; have := LB.out.size; omega) ?_
                intro v1 w3 hr1 hg1 hat1
                rw [Nat.zero_add, List.nil_append] at hr1
                rw [HCX.out] at hg1 hat1
                have TH := Lib.hid (thr_b (x := x) hr1 hg1 hat1)
                clear hr1 hg1 hat1 LB
                generalize v0.heap.size = g at TH ⊢
                refine hK _ _ ?_
                clear hK K
                refine wpAny_ready (rs := [9]) (by kernel_rfl) (by simp) ?_
                refine (AllReady.cons rfl (fun K hK => ?_) AllReady.nil)
                refine step_append_Q rfl (.tmp 47) (.tmp 52) 47 rfl W.heap.size 51 (.agg zero32.toArray) 32 32 Tryz.underlying47 Tryz.infoIdz rfl (by decide) v1 k (rowI (out.take k)) rfl TH.out.row (some ⟨g, 0, none⟩) 1 1 (rowI [x]) rfl TH.out.src (by have := HK.out; have := M0.out; omega) (by have := HK.out; have := M0.out; omega) (by have := LW.out.size; have := TH.out.low.size; omega) ?_
                intro v2 w4 hr2 hg2 hat2
                have R2 := Lib.hid hr2
                have G2 := Lib.hid hg2
                have AT2 := Lib.hid hat2
                clear hr2 hg2 hat2
                refine hK _ _ ?_
                clear hK K
                refine wpAny_ready (rs := [13]) (by kernel_rfl) (by simp) ?_
                refine (AllReady.cons rfl (fun K hK => ?_) AllReady.nil)
                refine step_append_Q rfl (.tmp 53) (.tmp 56) 47 rfl W.heap.size 51 (.agg zero32.toArray) 32 32 Tryz.underlying47 Tryz.infoIdz rfl (by decide) v2 (k + 1) (rowI (out.take k) ++ rowI [x]) rfl R2.out (if c1 = k then A1 else A1.map (·.add (k * 32))) (m - k) (c1 - k) (rowI (out.drop k)) rfl ((thr_out TH.out G2.out R0.out).midI k HK.out) (by have := HK.out; have := M0.out; omega) (by have := HK.out; have := M0.out; omega) (by have := LW.out.size; have := TH.out.low.size; have := G2.out.size; omega) ?_
                intro v3 w5 hr3 hg3 hat3
                have R3 := Lib.hid hr3
                have LE := Lib.hid (thr_end TH.out LW.out G2.out AT2.out hg3)
                clear hr3 hg3 hat3 G2 AT2 R2 TH
                refine hK _ _ ?_
                clear hK K
                refine wpAny_ready (rs := [14]) (by kernel_rfl) (by simp) ?_
                refine (AllReady.cons rfl (fun K hK => ?_) AllReady.nil)
                go_simp
                refine hK _ _ ?_
                clear hK K
                refine wpAny_done (by kernel_rfl) ?_ _
                go_wp2
                go_roundw
                case measure => simp [intOf]; have := HI.out; omega
                case rel =>
                  refine ⟨i + 1, by have := HI.out; omega, by go_num, ?_, LE.out⟩
                  have hml : m = out.length := HM.out
                  rw [HY.out]
                  have e1 : (out.take k ++ [x] ++ out.drop k).length = k + 1 + (m - k) := by simp; have := HK.out; omega
                  rw [e1, rowI_append, rowI_append]
                  exact R3.out
    · have : i = n := by omega
      subst this
      obtain ⟨A1, c1, rfl, _, _⟩ := hr.shape
      have HR := Lib.hid hr
      have HB := Lib.hid hb
      clear hr hb hi hlt
      go_wp2
      go_ret
      have e : l.take i = l := List.take_of_length_le (by have := LN.out; omega)
      have h1 := HR.out
      rw [e] at h1 ⊢
      exact ⟨A1, c1, rfl, h1.src (rowI_one _), HB.out⟩
end Go.Proofs.YtmnndehoopmmaaaGreatDoor
