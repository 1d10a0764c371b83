/- The laws' arguments, opened: commits, objects (rows of names, of entries in them). Commits as cells: where a commit's fields lie. commit.May: may it be a commit? -/
import Derived.Test.YtpbnigpdpkfpaaaGreatDoorP7x
import Derived.Test.YtpbnigpdpkfpaaaGreatDoorP10x
import Derived.Lib.SmallJoins
import Derived.Test.YtpbnigpdpkfpaaaGreatDoorP6x
import Derived.Test.YtpbnigpdpkfpaaaGreatDoorP5x
namespace Go.Proofs.YtpbnigpdpkfpaaaGreatDoor
open Go.RowKit Go.ChangeShapes Go.WideShapes Go.ChangeAt Go.Deep
/-- A commit's cells: its parents lie elsewhere. -/
def comL (c : Com) (B : Option Addr) (m d : Nat) : List Value := encI c.tree ++ [.slice B m d, .float .f64 c.wh, .string ⟨c.note.toArray⟩]
theorem comL_len (c : Com) (B : Option Addr) (m d : Nat) : (comL c B m d).length = 35 := by simp [comL, encI_len]
/-- An object's cells. -/
def objL (o : Obt) (A : Option Addr) (n k : Nat) (B : Option Addr) (m d : Nat) : List Value := [.int .i64 o.kd, .string ⟨o.blob.toArray⟩, .slice A n k] ++ comL o.com B m d
theorem objL_len (o : Obt) (A : Option Addr) (n k : Nat) (B : Option Addr) (m d : Nat) : (objL o A n k B m d).length = 38 := by simp [objL, comL_len]
/-- A commit that can be read. -/
structure ComAt (w : World) (c : Com) (B : Option Addr) (m d : Nat) : Prop where
  row : Src w 32 B m (rowI c.ps)
  cap : m ≤ d
  max : d ≤ maxLen
  bits : c.wh < 18446744073709551616
  note : c.note.length ≤ maxLen
/-- An object that can be read. -/
structure ObAt (w : World) (o : Obt) (A : Option Addr) (n k : Nat) (B : Option Addr) (m d : Nat) : Prop where
  row : Src w entE.k A n (entE.row o.ents)
  cap : n ≤ k
  max : k ≤ maxLen
  names : ∀ e ∈ o.ents, e.nm.length ≤ maxLen
  blob : o.blob.length ≤ maxLen
  com : ComAt w o.com B m d
section
variable {H : Type} {enc : TypeId × Value → H} {P : Program} {w : World} {base : Nat} {spare : Nat → Bool} {held : Bool}
theorem rowE_of_trod {α : Type} [Inhabited α] (E : Enc α) {t e : TypeId} (hk : P.cellsOf e = E.k) (ht : P.underlying t = some (.slice e)) (R : α → Prop)
    (hel : ∀ {cs : List Value} {x : DataW H × List MemPlace} {fuel : Nat}, DataW.trod enc P w base spare held fuel e cs = some x → ∃ y, cs = E.enc y ∧ R y)
    {cs : List Value} {x : DataW H × List MemPlace} {fuel : Nat} (hf : DataW.trod enc P w base spare held fuel t cs = some x) :
    ∃ A n c, ∃ l : List α, cs = [.slice A n c] ∧ n ≤ c ∧ c ≤ maxLen ∧ Src w E.k A n (E.row l) ∧ ∀ y ∈ l, R y := by
  have hp := E.pos
  rcases open_slice ht hf with ⟨h1, _⟩ | ⟨a, len, cap, m, q, D, Pl, h1, _, hl, hm, hmm, hx, hV⟩
  · exact ⟨none, 0, 0, [], h1, Nat.le_refl _, Nat.zero_le _, ⟨E.row_len [], fun h => absurd h (Nat.lt_irrefl 0), fun u hu => absurd hu (by simp [Enc.row])⟩, fun e he => absurd he (by simp)⟩
  · have hnm : len ≤ m := by rw [hmm]; split <;> omega
    rw [hk] at hV
    have hz : ∀ i, i < len → ∃ x : α, (∀ j, j < E.k → w.cell? ((a.add (i * E.k)).add j) = (E.enc x)[j]?) ∧ R x := fun i hi => by
      obtain ⟨cs, h3, h4⟩ := hV i (by omega)
      obtain ⟨_, _, h5⟩ := World.cells?_some h3
      obtain ⟨e, rfl, h6⟩ := hel h4
      exact ⟨e, h5, h6⟩
    obtain ⟨X, hX⟩ := choose_lt hz
    have hll : ((List.range len).map X).length = len := by simp
    refine ⟨some a, len, cap, (List.range len).map X, h1, hl, hm, ⟨by rw [E.row_len, hll], fun _ => ⟨a, rfl, fun t u hu => ?_⟩, E.row_one _⟩, fun e he => by
      obtain ⟨i, hi, rfl⟩ := List.mem_map.1 he
      exact (hX i (by simpa using hi)).2⟩
    have ht2 : t < len * E.k := by
      have := (List.getElem?_eq_some_iff.1 hu).1
      rw [E.row_len, hll] at this
      exact this
    have hq : t / E.k < len := (Nat.div_lt_iff_lt_mul hp).2 ht2
    have hr : t % E.k < E.k := Nat.mod_lt _ hp
    have hs : t / E.k * E.k + t % E.k = t := by rw [Nat.mul_comm]; exact Nat.div_add_mod t E.k
    have h3 := (hX (t / E.k) hq).1 (t % E.k) hr
    have ha : (a.add (t / E.k * E.k)).add (t % E.k) = a.add t := by
      generalize t / E.k * E.k = p at hs
      generalize t % E.k = r at hs
      subst hs
      unfold Addr.add
      by_cases h1 : p = 0
      · simp [h1]
      · by_cases h2 : r = 0
        · simp [h2]
        · simp [h1, h2, Nat.add_assoc]
    rw [ha] at h3
    have hel2 := E.len (X (t / E.k))
    have hi : t % E.k < (E.enc (X (t / E.k))).length := by omega
    have ej : ((List.range len).map X)[t / E.k]! = X (t / E.k) := by
      have hlt : t / E.k < ((List.range len).map X).length := by rw [hll]; exact hq
      rw [getElem!_pos ((List.range len).map X) (t / E.k) hlt]
      simp
    have h4 := E.row_at ((List.range len).map X) (t / E.k) (t % E.k) (E.enc (X (t / E.k)))[t % E.k] (by rw [hll]; exact hq) (by rw [ej]; exact List.getElem?_eq_getElem hi)
    rw [hs, hu] at h4
    rw [h3, List.getElem?_eq_getElem hi, h4]
end
section
variable {H : Type} {enc : TypeId × Value → H} {w : World} {base : Nat} {spare : Nat → Bool} {held : Bool}
theorem trod_f64 {t : TypeId} {fuel : Nat} {cs : List Value} {x : DataW H × List MemPlace} (ht : Tryz.prog.underlying t = some (.float .f64)) (hf : DataW.trod enc Tryz.prog w base spare held fuel t cs = some x) :
    ∃ b, cs = [.float .f64 b] ∧ b < 18446744073709551616 := by
  have h : ∃ b, cs = [.float .f64 b] ∧ (Lit.float .f64 b).wf = true := by
    cases fuel with
    | zero => simp [DataW.trod] at hf
    | succ n =>
      unfold DataW.trod at hf
      rw [ht] at hf
      split at hf <;> simp_all
  obtain ⟨b, hb, hw⟩ := h
  exact ⟨b, hb, by simpa [Lit.wf] using hw⟩
theorem three {l : List Value} (h : l.length = 3) : ∃ a b c, l = [a, b, c] := by
  match l, h with
  | [a, b, c], _ => exact ⟨a, b, c, rfl⟩
set_option maxRecDepth 100000 in
theorem com_of_trod {cs : List Value} {x : DataW H × List MemPlace} {fuel : Nat} (hf : DataW.trod enc Tryz.prog w base spare held fuel 28 cs = some x) :
    ∃ (c : Com) (B : Option Addr) (m d : Nat), cs = comL c B m d ∧ ComAt w c B m d := by
  obtain ⟨y0, y1, y2, y3, n, _, hl, h0, h1, h2, h3⟩ := Go.Joins.trod_struct4 Tryz.underlying28 hf
  have c0 : Tryz.prog.cellsOf 24 = 32 := by kernel_rfl
  have c1 : Tryz.prog.cellsOf 25 = 1 := by kernel_rfl
  have c2 : Tryz.prog.cellsOf 26 = 1 := by kernel_rfl
  have c3 : Tryz.prog.cellsOf 9 = 1 := by kernel_rfl
  have cC : Tryz.prog.cellsOf 28 = 35 := by kernel_rfl
  rw [cC] at hl
  simp only [c0, c1, c2, c3] at h0 h1 h2 h3
  obtain ⟨l, hid, h32⟩ := name_of_trod Tryz.underlying24 Tryz.underlying5 (by kernel_rfl) c0 h0
  obtain ⟨B, m, d, ps, hps, k1, k2, k3, _⟩ := rowE_of_trod idtE (P := Tryz.prog) (by kernel_rfl) Tryz.underlying25 (fun _ => True) (fun h => by
    obtain ⟨l, rfl, h32⟩ := name_of_trod Tryz.underlying24 Tryz.underlying5 (by kernel_rfl) c0 h
    exact ⟨⟨l, h32⟩, rfl, trivial⟩) h1
  obtain ⟨b, hb, hb2⟩ := trod_f64 (by kernel_rfl) h2
  obtain ⟨s, hs, _, hsm⟩ := DataW.trod_string (by kernel_rfl) h3
  refine ⟨⟨⟨l, h32⟩, ps, b, s.data.toList⟩, B, m, d, ?_, ⟨k3, k1, k2, hb2, by rw [ba_size] at hsm; exact hsm⟩⟩
  obtain ⟨v1, v2, v3, hv⟩ := three (l := cs.drop 32) (by rw [List.length_drop]; omega)
  have d0 : cs.take 32 = Bs l := by simpa using hid
  have d1 : v1 = .slice B m d := by
    have : (cs.drop 32).take 1 = [.slice B m d] := hps
    rw [hv] at this
    simpa using this
  have d2 : v2 = .float .f64 b := by
    have : (cs.drop 33).take 1 = [.float .f64 b] := hb
    rw [show (33 : Nat) = 32 + 1 from rfl, ← List.drop_drop, hv] at this
    simpa using this
  have d3 : v3 = .string s := by
    have : (cs.drop 34).take 1 = [.string s] := hs
    rw [show (34 : Nat) = 32 + 2 from rfl, ← List.drop_drop, hv] at this
    simpa using this
  have := List.take_append_drop 32 cs
  rw [d0, hv, d1, d2, d3] at this
  rw [← this]
  rfl
set_option maxRecDepth 100000 in
theorem ob_of_trod {cs : List Value} {x : DataW H × List MemPlace} {fuel : Nat} (hf : DataW.trod enc Tryz.prog w base spare held fuel 30 cs = some x) :
    ∃ (o : Obt) (A : Option Addr) (n k : Nat) (B : Option Addr) (m d : Nat), cs = objL o A n k B m d ∧ ObAt w o A n k B m d := by
  obtain ⟨y0, y1, y2, y3, n, _, hl, h0, h1, h2, h3⟩ := Go.Joins.trod_struct4 Tryz.underlying30 hf
  have c0 : Tryz.prog.cellsOf 3 = 1 := by kernel_rfl
  have c1 : Tryz.prog.cellsOf 9 = 1 := by kernel_rfl
  have c2 : Tryz.prog.cellsOf 22 = 1 := by kernel_rfl
  have c3 : Tryz.prog.cellsOf 28 = 35 := by kernel_rfl
  have cC : Tryz.prog.cellsOf 30 = 38 := by kernel_rfl
  rw [cC] at hl
  simp only [c0, c1, c2, c3] at h0 h1 h2 h3
  obtain ⟨z, hz, _, _⟩ := DataW.trod_int (k := .i64) (by kernel_rfl) h0
  obtain ⟨s, hs, _, hsm⟩ := DataW.trod_string (by kernel_rfl) h1
  obtain ⟨A, an, ak, es, hes, k1, k2, k3, k4⟩ := rowE_of_trod entE (P := Tryz.prog) (by kernel_rfl) Tryz.underlying22 (fun e => e.nm.length ≤ maxLen) (fun h => ent_of_trod h) h2
  obtain ⟨c, B, m, d, hc, hC⟩ := com_of_trod h3
  refine ⟨⟨z, s.data.toList, es, c⟩, A, an, ak, B, m, d, ?_, ⟨k3, k1, k2, k4, by rw [ba_size] at hsm; exact hsm, hC⟩⟩
  obtain ⟨v1, v2, v3, hv⟩ := three (l := cs.take 3) (by rw [List.length_take]; omega)
  have e3 : cs.drop 3 = comL c B m d := by
    have : (cs.drop 3).take 35 = comL c B m d := hc
    rwa [List.take_of_length_le (by rw [List.length_drop]; omega)] at this
  have ht : ∀ i, i < 3 → (cs.drop i).take 1 = ((cs.take 3).drop i).take 1 := fun i hi => by
    rw [List.drop_take, List.take_take]
    congr 1
    omega
  have d1 : v1 = .int .i64 z := by
    have : (cs.drop 0).take 1 = [.int .i64 z] := hz
    rw [ht 0 (by omega), hv] at this
    simpa using this
  have d2 : v2 = .string s := by
    have : (cs.drop 1).take 1 = [.string s] := hs
    rw [ht 1 (by omega), hv] at this
    simpa using this
  have d3 : v3 = .slice A an ak := by
    have : (cs.drop 2).take 1 = [.slice A an ak] := hes
    rw [ht 2 (by omega), hv] at this
    simpa using this
  have := List.take_append_drop 3 cs
  rw [e3, hv, d1, d2, d3] at this
  rw [← this]
  rfl
set_option maxRecDepth 100000 in
theorem open_ob {r : Reach} {b0 : Nat} {v : Value} {d : DataW H} {ps : List MemPlace} (hval : Value.okWide Tryz.prog w r b0 30 v) (hd : DataW.Trod enc Tryz.prog w base spare held 30 v d ps) :
    ∃ (o : Obt) (A : Option Addr) (n k : Nat) (B : Option Addr) (m d : Nat), v = .agg (objL o A n k B m d).toArray ∧ ObAt w o A n k B m d := by
  obtain ⟨cs, rfl, _⟩ := okWide_struct Tryz.underlying30 hval
  obtain ⟨fuel, hf⟩ := hd
  obtain ⟨o, A, n, k, B, m, d, h1, h2⟩ := ob_of_trod hf
  have h3 : cs.toList = objL o A n k B m d := h1
  exact ⟨o, A, n, k, B, m, d, by rw [← h3], h2⟩
end
end Go.Proofs.YtpbnigpdpkfpaaaGreatDoor
namespace Go.Proofs.YtpbnigpdpkfpaaaGreatDoor
open Go.RowKit
/-- A cell read, as one step of a region that draws; a guard that holds. -/
theorem step_cellg {P : Program} {ops : Array Oper} {o : Oper} {a : Act} {w : World} {K : Act → World → Prop} {Q : Exit → Act → World → Prop} {E : Prop} (hgd : Region.wanted o (yielded ops a.tmps) = true) (ty : TypeId) (x : Operand) (ho : o.op = .load ty x) (ad : Addr) (hx : a.eval x = .pointer (some ad)) (v : Value)
    (hagg : (isAgg ty).run P w = .ok false w) (hc : w.cell? ad = some v) (h : K (a.put o.dst v) w) :
    if Region.wanted o (yielded ops a.tmps) = true then Oper.wp P o a w K Q else E := by
  rw [if_pos hgd]
  have : (loadVar ty ad).run P w = .ok v w := by simp [loadVar, hagg, go_sem, hc]
  unfold Oper.wp execOp
  simp only [ho, hx, Sem.run_bind, Sem.run_pure]
  simp [Instr.loadAt, Instr.sureAddr, this]
  exact h
/-- Where a commit's fields lie. -/
structure ComBlk (w : World) (g : Nat) (c : Com) (B : Option Addr) (m d : Nat) (nb : ByteArray) : Prop where
  blk : Blk w g 28 (comL c B m d)
  tree : ∀ j v, (encI c.tree)[j]? = some v → w.cell? ⟨g, j, none⟩ = some v
  ps : w.cell? ⟨g, 32, none⟩ = some (.slice B m d)
  wh : w.cell? ⟨g, 33, none⟩ = some (.float .f64 c.wh)
  note : w.cell? ⟨g, 34, none⟩ = some (.string nb)
theorem comL_tree (c : Com) (B : Option Addr) (m d : Nat) (j : Nat) (v : Value) (h : (encI c.tree)[j]? = some v) : (comL c B m d)[j]? = some v := by
  have hj := (List.getElem?_eq_some_iff.1 h).1
  unfold comL
  rw [List.getElem?_append_left hj]
  exact h
theorem comL_at (c : Com) (B : Option Addr) (m d : Nat) : (comL c B m d)[32]? = some (.slice B m d) ∧ (comL c B m d)[33]? = some (.float .f64 c.wh) ∧ (comL c B m d)[34]? = some (.string ⟨c.note.toArray⟩) := by
  unfold comL
  refine ⟨?_, ?_, ?_⟩ <;> rw [List.getElem?_append_right (by rw [encI_len]; omega), encI_len] <;> rfl
theorem ComBlk.of {w : World} {g : Nat} {c : Com} {B : Option Addr} {m d : Nat} (h : Blk w g 28 (comL c B m d)) : ComBlk w g c B m d ⟨c.note.toArray⟩ :=
  ⟨h, fun j v hv => h.cell j v (comL_tree c B m d j v hv), h.cell 32 _ (comL_at c B m d).1, h.cell 33 _ (comL_at c B m d).2.1, h.cell 34 _ (comL_at c B m d).2.2⟩
theorem ComBlk.below {w w' : World} {g : Nat} {c : Com} {B : Option Addr} {m d : Nat} {nb : ByteArray} (h : ComBlk w g c B m d nb) (hb : Below w.heap.size w w') : ComBlk w' g c B m d nb := by
  have hg := h.blk.lt
  have key : ∀ j v, w.cell? ⟨g, j, none⟩ = some v → w'.cell? ⟨g, j, none⟩ = some v := fun j v hv => (hb.cell (p := ⟨g, j, none⟩) hg).trans hv
  exact ⟨h.blk.below hb, fun j v hv => key _ _ (h.tree j v hv), key _ _ h.ps, key _ _ h.wh, key _ _ h.note⟩
theorem infoC (c : Com) (B : Option Addr) (m d : Nat) : (Tryz.prog.info? 28).map (·.size) = some (comL c B m d).length := by
  have h : (Tryz.prog.info? 28).map (·.size) = some 35 := by kernel_rfl
  rw [h, comL_len]
theorem comL_one (c : Com) (B : Option Addr) (m d : Nat) : ∀ v ∈ comL c B m d, v.oneCell' = true := by
  intro v hv
  simp only [comL, List.mem_append, List.mem_cons, List.not_mem_nil, or_false] at hv
  rcases hv with h | rfl | rfl | rfl
  · exact encI_one _ v h
  · rfl
  · rfl
  · rfl
theorem ComAt.below {w w' : World} {c : Com} {B : Option Addr} {m d : Nat} (h : ComAt w c B m d) (hb : Below w.heap.size w w') : ComAt w' c B m d := ⟨srcI_below h.row hb, h.cap, h.max, h.bits, h.note⟩
theorem ComAt.len {w : World} {c : Com} {B : Option Addr} {m d : Nat} (h : ComAt w c B m d) : c.ps.length = m := src_len h.row
theorem mayC_eq (c : Com) (m n2 : Nat) (hm : c.ps.length = m) (h2 : (sortI c.ps).length = n2) (nb : ByteArray) (hn : nb = ⟨c.note.toArray⟩) : mayC c = (decide (m ≤ 4) && decide (nb.size ≤ 100) && decide (n2 = m) && fmay c.wh) := by
  have e : nb.size = c.note.length := by rw [hn, ba_size]
  unfold mayC
  rw [hm, h2, e]
end Go.Proofs.YtpbnigpdpkfpaaaGreatDoor
namespace Go.Proofs.YtpbnigpdpkfpaaaGreatDoor
open Go.RowKit
set_option maxRecDepth 20000 in
set_option maxHeartbeats 6400000 in
theorem commitMay_any (W : World) (c : Com) (B : Option Addr) (m d : Nat) (h : ComAt W c B m d) (hm : m ≤ 1099511627776) :
    Calls Tryz.prog 72 #[.agg (comL c B m d).toArray] W fun e W' => e = .returned (.bool (mayC c)) ∧ Below W.heap.size W W' := by
  obtain ⟨nb, hnb⟩ : ∃ nb : ByteArray, nb = ⟨c.note.toArray⟩ := ⟨_, rfl⟩
  obtain ⟨n2, hn2⟩ : ∃ n2, n2 = (sortI c.ps).length := ⟨_, rfl⟩
  rw [mayC_eq c m n2 h.len hn2.symm nb hnb]
  have K0 := ComBlk.of (Blk.new W 28 (comL c B m d))
  rw [← hnb] at K0
  have l0 := (Below.refl W.heap.size W).alloc (Nat.le_refl _) (.cells (comL c B m d).toArray 28)
  have s0 := srcI_below h.row l0
  obtain ⟨cs, hcs⟩ : ∃ cs, cs = comL c B m d := ⟨_, rfl⟩
  obtain ⟨w0, hw0⟩ : ∃ w0, w0 = W.alloc (.cells (comL c B m d).toArray 28) := ⟨_, rfl⟩
  rw [← hw0] at K0 l0 s0
  rw [← hcs] at hw0 ⊢
  have KB := Lib.hid K0
  have L0 := Lib.hid l0
  have S0 := Lib.hid s0
  have HM := Lib.hid hm
  have N2 := Lib.hid hn2
  have m9 : (m : Int) ≤ 1099511627776 := by omega
  have nz : (0 : Int) ≤ (nb.size : Int) := by omega
  have hps := K0.ps
  have hnt := K0.note
  have cS := fun w (hw : Below w0.heap.size w0 w) => isort_any w B m d c.ps (srcI_below S0.out hw) hm
  unfold IdsPost at cS
  rw [← hn2] at cS
  have CS := Lib.hid cS
  obtain ⟨wh, hwh⟩ : ∃ wh, wh = c.wh := ⟨_, rfl⟩
  have cW : ∀ w, Below w0.heap.size w0 w → w.cell? ⟨W.heap.size, 33, none⟩ = some (.float .f64 wh) := fun w hw => by rw [hwh]; exact (KB.out.below hw).wh
  have CW := Lib.hid cW
  have CP : Hid (∀ w, Below w0.heap.size w0 w → w.cell? ⟨W.heap.size, 32, none⟩ = some (.slice B m d)) := Lib.hid fun w hw => (KB.out.below hw).ps
  rw [← hwh]
  obtain ⟨r, hr⟩ : ∃ r, r = (decide (m ≤ 4) && decide (nb.size ≤ 100) && decide (n2 = m) && fmay wh) := ⟨_, rfl⟩
  rw [← hr]
  have HR := Lib.hid hr
  clear hr h hm K0 l0 s0 hcs hn2 hnb cS hwh cW nz
  go_enter Tryz.func72, Tryz.ntmps72
  go_upto_region 1 with fail
  change Code.wp _ _ _ _ (W.alloc (.cells cs.toArray 28))
  rw [← hw0]
  clear hw0 KB
  generalize W.heap.size = g at hps hnt CW CP ⊢
  by_cases h4 : m ≤ 4
  · have i4 : (m : Int) ≤ 4 := by omega
    by_cases hz : nb.size ≤ 100
    · have iz : (nb.size : Int) ≤ 100 := by omega
      have hr := HR.out
      rw [decide_eq_true h4, decide_eq_true hz, Bool.true_and, Bool.true_and] at hr
      have H2 := Lib.hid hr
      clear h4 hz hr
      go_upto_region 2 with fail
      refine wp_region_any (by kernel_rfl) ?_
      change wpAny _ _ _ _ _ _ _ (World.drew _)
      have LD : Hid (Below w0.heap.size w0 w0.drew) := Lib.hid (Below.refl _ _).drew
      generalize World.drew w0 = v0 at LD ⊢
      clear hps hnt
      refine wpAny_bare [0, 1, 2, 6] 13 (by rfl) (by kernel_rfl) (fun _ _ _ d _ h => by cases d <;> exact h) ?_
      simp only [bareO, List.filterMap_cons, List.filterMap_nil, List.getElem?_toArray, List.getElem?_cons_succ, List.getElem?_cons_zero]
      repeat (first | quiet_step (fail) | go_big_quiet_step (fail))
      refine wpQuiet_nil ?_
      refine wpAny_ready (rs := [3, 7]) (by kernel_rfl) (by simp) ?_
      refine (AllReady.cons rfl (fun K hK => ?_) (AllReady.cons rfl (fun K hK => ?_) AllReady.nil))
      ·
        refine step_cellg (by rfl) 25 (.tmp 16) rfl ⟨g, 32, none⟩ rfl (.slice B m d) (Tryz.isAgg25 _) (CP.out _ LD.out) ?_
        refine hK _ _ ?_
        clear hK K
        refine wpAny_ready (rs := [4, 7]) (by kernel_rfl) (by simp) ?_
        refine (AllReady.cons rfl (fun K hK => ?_) (AllReady.cons rfl (fun K hK => ?_) AllReady.nil))
        ·
          go_simp
          refine (CS.out _ LD.out).mono ?_
          rintro e w1 ⟨A1, c1, rfl, _, h2⟩
          have L1 := Lib.hid (LD.out.trans (h2.mono LD.out.size))
          clear h2
          refine hK _ _ ?_
          clear hK K
          refine wpAny_ready (rs := [5, 7]) (by kernel_rfl) (by simp) ?_
          refine (AllReady.cons rfl (fun K hK => ?_) (AllReady.cons rfl (fun K hK => ?_) AllReady.nil))
          ·
            go_simp
            refine hK _ _ ?_
            clear hK K
            refine wpAny_ready (rs := [7]) (by kernel_rfl) (by simp) ?_
            refine (AllReady.cons rfl (fun K hK => ?_) AllReady.nil)
            refine step_cellg (by rfl) 25 (.tmp 20) rfl ⟨g, 32, none⟩ rfl (.slice B m d) (Tryz.isAgg25 _) (CP.out _ L1.out) ?_
            refine hK _ _ ?_
            clear hK K
            refine wpAny_ready (rs := [8]) (by kernel_rfl) (by simp) ?_
            refine (AllReady.cons rfl (fun K hK => ?_) AllReady.nil)
            go_simp
            refine hK _ _ ?_
            clear hK K
            refine wpAny_head (C := fun w' => w' = w1) 9 9 rfl (by kernel_rfl) ?_ (by rfl)
            refine wpQuiet_nil ?_
            rintro _ rfl
            have cw := CW.out _ L1.out
            by_cases hq : n2 = m
            · have hq' : ((n2 : Int) == (m : Int)) = true := by simp [hq]
              have hr := H2.out
              rw [decide_eq_true hq, Bool.true_and] at hr
              have H3 := Lib.hid hr
              clear hq hr
              go_wp2_with (go_at_call 133; refine (may_any _ wh).mono ?_; rintro e w' ⟨rfl, hw⟩; replace hw := hw.symm; subst hw)
              go_ret
              exact ⟨by rw [H3.out]; rfl, L0.out.trans (L1.out.mono L0.out.size)⟩
            · have hq' : ((n2 : Int) == (m : Int)) = false := by simp; omega
              have hr := H2.out
              rw [decide_eq_false hq, Bool.false_and] at hr
              have H3 := Lib.hid hr
              clear hq hr
              go_wp2_with (go_at_call 133; refine (may_any _ wh).mono ?_; rintro e w' ⟨rfl, hw⟩; replace hw := hw.symm; subst hw)
              go_ret
              exact ⟨by rw [H3.out]; rfl, L0.out.trans (L1.out.mono L0.out.size)⟩
          ·
            refine step_cellg (by rfl) 25 (.tmp 20) rfl ⟨g, 32, none⟩ rfl (.slice B m d) (Tryz.isAgg25 _) (CP.out _ L1.out) ?_
            refine hK _ _ ?_
            clear hK K
            refine wpAny_ready (rs := [5, 8]) (by kernel_rfl) (by simp) ?_
            refine (AllReady.cons rfl (fun K hK => ?_) (AllReady.cons rfl (fun K hK => ?_) AllReady.nil))
            ·
              go_simp
              refine hK _ _ ?_
              clear hK K
              refine wpAny_ready (rs := [8]) (by kernel_rfl) (by simp) ?_
              refine (AllReady.cons rfl (fun K hK => ?_) AllReady.nil)
              go_simp
              refine hK _ _ ?_
              clear hK K
              refine wpAny_head (C := fun w' => w' = w1) 9 9 rfl (by kernel_rfl) ?_ (by rfl)
              refine wpQuiet_nil ?_
              rintro _ rfl
              have cw := CW.out _ L1.out
              by_cases hq : n2 = m
              · have hq' : ((n2 : Int) == (m : Int)) = true := by simp [hq]
                have hr := H2.out
                rw [decide_eq_true hq, Bool.true_and] at hr
                have H3 := Lib.hid hr
                clear hq hr
                go_wp2_with (go_at_call 133; refine (may_any _ wh).mono ?_; rintro e w' ⟨rfl, hw⟩; replace hw := hw.symm; subst hw)
                go_ret
                exact ⟨by rw [H3.out]; rfl, L0.out.trans (L1.out.mono L0.out.size)⟩
              · have hq' : ((n2 : Int) == (m : Int)) = false := by simp; omega
                have hr := H2.out
                rw [decide_eq_false hq, Bool.false_and] at hr
                have H3 := Lib.hid hr
                clear hq hr
                go_wp2_with (go_at_call 133; refine (may_any _ wh).mono ?_; rintro e w' ⟨rfl, hw⟩; replace hw := hw.symm; subst hw)
                go_ret
                exact ⟨by rw [H3.out]; rfl, L0.out.trans (L1.out.mono L0.out.size)⟩
            ·
              go_simp
              refine hK _ _ ?_
              clear hK K
              refine wpAny_ready (rs := [5]) (by kernel_rfl) (by simp) ?_
              refine (AllReady.cons rfl (fun K hK => ?_) AllReady.nil)
              go_simp
              refine hK _ _ ?_
              clear hK K
              refine wpAny_head (C := fun w' => w' = w1) 9 9 rfl (by kernel_rfl) ?_ (by rfl)
              refine wpQuiet_nil ?_
              rintro _ rfl
              have cw := CW.out _ L1.out
              by_cases hq : n2 = m
              · have hq' : ((n2 : Int) == (m : Int)) = true := by simp [hq]
                have hr := H2.out
                rw [decide_eq_true hq, Bool.true_and] at hr
                have H3 := Lib.hid hr
                clear hq hr
                go_wp2_with (go_at_call 133; refine (may_any _ wh).mono ?_; rintro e w' ⟨rfl, hw⟩; replace hw := hw.symm; subst hw)
                go_ret
                exact ⟨by rw [H3.out]; rfl, L0.out.trans (L1.out.mono L0.out.size)⟩
              · have hq' : ((n2 : Int) == (m : Int)) = false := by simp; omega
                have hr := H2.out
                rw [decide_eq_false hq, Bool.false_and] at hr
                have H3 := Lib.hid hr
                clear hq hr
                go_wp2_with (go_at_call 133; refine (may_any _ wh).mono ?_; rintro e w' ⟨rfl, hw⟩; replace hw := hw.symm; subst hw)
                go_ret
                exact ⟨by rw [H3.out]; rfl, L0.out.trans (L1.out.mono L0.out.size)⟩
        ·
          refine step_cellg (by rfl) 25 (.tmp 20) rfl ⟨g, 32, none⟩ rfl (.slice B m d) (Tryz.isAgg25 _) (CP.out _ LD.out) ?_
          refine hK _ _ ?_
          clear hK K
          refine wpAny_ready (rs := [4, 8]) (by kernel_rfl) (by simp) ?_
          refine (AllReady.cons rfl (fun K hK => ?_) (AllReady.cons rfl (fun K hK => ?_) AllReady.nil))
          ·
            go_simp
            refine (CS.out _ LD.out).mono ?_
            rintro e w2 ⟨A2, c2, rfl, _, h2⟩
            have L2 := Lib.hid (LD.out.trans (h2.mono LD.out.size))
            clear h2
            refine hK _ _ ?_
            clear hK K
            refine wpAny_ready (rs := [5, 8]) (by kernel_rfl) (by simp) ?_
            refine (AllReady.cons rfl (fun K hK => ?_) (AllReady.cons rfl (fun K hK => ?_) AllReady.nil))
            ·
              go_simp
              refine hK _ _ ?_
              clear hK K
              refine wpAny_ready (rs := [8]) (by kernel_rfl) (by simp) ?_
              refine (AllReady.cons rfl (fun K hK => ?_) AllReady.nil)
              go_simp
              refine hK _ _ ?_
              clear hK K
              refine wpAny_head (C := fun w' => w' = w2) 9 9 rfl (by kernel_rfl) ?_ (by rfl)
              refine wpQuiet_nil ?_
              rintro _ rfl
              have cw := CW.out _ L2.out
              by_cases hq : n2 = m
              · have hq' : ((n2 : Int) == (m : Int)) = true := by simp [hq]
                have hr := H2.out
                rw [decide_eq_true hq, Bool.true_and] at hr
                have H3 := Lib.hid hr
                clear hq hr
                go_wp2_with (go_at_call 133; refine (may_any _ wh).mono ?_; rintro e w' ⟨rfl, hw⟩; replace hw := hw.symm; subst hw)
                go_ret
                exact ⟨by rw [H3.out]; rfl, L0.out.trans (L2.out.mono L0.out.size)⟩
              · have hq' : ((n2 : Int) == (m : Int)) = false := by simp; omega
                have hr := H2.out
                rw [decide_eq_false hq, Bool.false_and] at hr
                have H3 := Lib.hid hr
                clear hq hr
                go_wp2_with (go_at_call 133; refine (may_any _ wh).mono ?_; rintro e w' ⟨rfl, hw⟩; replace hw := hw.symm; subst hw)
                go_ret
                exact ⟨by rw [H3.out]; rfl, L0.out.trans (L2.out.mono L0.out.size)⟩
            ·
              go_simp
              refine hK _ _ ?_
              clear hK K
              refine wpAny_ready (rs := [5]) (by kernel_rfl) (by simp) ?_
              refine (AllReady.cons rfl (fun K hK => ?_) AllReady.nil)
              go_simp
              refine hK _ _ ?_
              clear hK K
              refine wpAny_head (C := fun w' => w' = w2) 9 9 rfl (by kernel_rfl) ?_ (by rfl)
              refine wpQuiet_nil ?_
              rintro _ rfl
              have cw := CW.out _ L2.out
              by_cases hq : n2 = m
              · have hq' : ((n2 : Int) == (m : Int)) = true := by simp [hq]
                have hr := H2.out
                rw [decide_eq_true hq, Bool.true_and] at hr
                have H3 := Lib.hid hr
                clear hq hr
                go_wp2_with (go_at_call 133; refine (may_any _ wh).mono ?_; rintro e w' ⟨rfl, hw⟩; replace hw := hw.symm; subst hw)
                go_ret
                exact ⟨by rw [H3.out]; rfl, L0.out.trans (L2.out.mono L0.out.size)⟩
              · have hq' : ((n2 : Int) == (m : Int)) = false := by simp; omega
                have hr := H2.out
                rw [decide_eq_false hq, Bool.false_and] at hr
                have H3 := Lib.hid hr
                clear hq hr
                go_wp2_with (go_at_call 133; refine (may_any _ wh).mono ?_; rintro e w' ⟨rfl, hw⟩; replace hw := hw.symm; subst hw)
                go_ret
                exact ⟨by rw [H3.out]; rfl, L0.out.trans (L2.out.mono L0.out.size)⟩
          ·
            go_simp
            refine hK _ _ ?_
            clear hK K
            refine wpAny_ready (rs := [4]) (by kernel_rfl) (by simp) ?_
            refine (AllReady.cons rfl (fun K hK => ?_) AllReady.nil)
            go_simp
            refine (CS.out _ LD.out).mono ?_
            rintro e w3 ⟨A3, c3, rfl, _, h2⟩
            have L3 := Lib.hid (LD.out.trans (h2.mono LD.out.size))
            clear h2
            refine hK _ _ ?_
            clear hK K
            refine wpAny_ready (rs := [5]) (by kernel_rfl) (by simp) ?_
            refine (AllReady.cons rfl (fun K hK => ?_) AllReady.nil)
            go_simp
            refine hK _ _ ?_
            clear hK K
            refine wpAny_head (C := fun w' => w' = w3) 9 9 rfl (by kernel_rfl) ?_ (by rfl)
            refine wpQuiet_nil ?_
            rintro _ rfl
            have cw := CW.out _ L3.out
            by_cases hq : n2 = m
            · have hq' : ((n2 : Int) == (m : Int)) = true := by simp [hq]
              have hr := H2.out
              rw [decide_eq_true hq, Bool.true_and] at hr
              have H3 := Lib.hid hr
              clear hq hr
              go_wp2_with (go_at_call 133; refine (may_any _ wh).mono ?_; rintro e w' ⟨rfl, hw⟩; replace hw := hw.symm; subst hw)
              go_ret
              exact ⟨by rw [H3.out]; rfl, L0.out.trans (L3.out.mono L0.out.size)⟩
            · have hq' : ((n2 : Int) == (m : Int)) = false := by simp; omega
              have hr := H2.out
              rw [decide_eq_false hq, Bool.false_and] at hr
              have H3 := Lib.hid hr
              clear hq hr
              go_wp2_with (go_at_call 133; refine (may_any _ wh).mono ?_; rintro e w' ⟨rfl, hw⟩; replace hw := hw.symm; subst hw)
              go_ret
              exact ⟨by rw [H3.out]; rfl, L0.out.trans (L3.out.mono L0.out.size)⟩
      ·
        refine step_cellg (by rfl) 25 (.tmp 20) rfl ⟨g, 32, none⟩ rfl (.slice B m d) (Tryz.isAgg25 _) (CP.out _ LD.out) ?_
        refine hK _ _ ?_
        clear hK K
        refine wpAny_ready (rs := [3, 8]) (by kernel_rfl) (by simp) ?_
        refine (AllReady.cons rfl (fun K hK => ?_) (AllReady.cons rfl (fun K hK => ?_) AllReady.nil))
        ·
          refine step_cellg (by rfl) 25 (.tmp 16) rfl ⟨g, 32, none⟩ rfl (.slice B m d) (Tryz.isAgg25 _) (CP.out _ LD.out) ?_
          refine hK _ _ ?_
          clear hK K
          refine wpAny_ready (rs := [4, 8]) (by kernel_rfl) (by simp) ?_
          refine (AllReady.cons rfl (fun K hK => ?_) (AllReady.cons rfl (fun K hK => ?_) AllReady.nil))
          ·
            go_simp
            refine (CS.out _ LD.out).mono ?_
            rintro e w4 ⟨A4, c4, rfl, _, h2⟩
            have L4 := Lib.hid (LD.out.trans (h2.mono LD.out.size))
            clear h2
            refine hK _ _ ?_
            clear hK K
            refine wpAny_ready (rs := [5, 8]) (by kernel_rfl) (by simp) ?_
            refine (AllReady.cons rfl (fun K hK => ?_) (AllReady.cons rfl (fun K hK => ?_) AllReady.nil))
            ·
              go_simp
              refine hK _ _ ?_
              clear hK K
              refine wpAny_ready (rs := [8]) (by kernel_rfl) (by simp) ?_
              refine (AllReady.cons rfl (fun K hK => ?_) AllReady.nil)
              go_simp
              refine hK _ _ ?_
              clear hK K
              refine wpAny_head (C := fun w' => w' = w4) 9 9 rfl (by kernel_rfl) ?_ (by rfl)
              refine wpQuiet_nil ?_
              rintro _ rfl
              have cw := CW.out _ L4.out
              by_cases hq : n2 = m
              · have hq' : ((n2 : Int) == (m : Int)) = true := by simp [hq]
                have hr := H2.out
                rw [decide_eq_true hq, Bool.true_and] at hr
                have H3 := Lib.hid hr
                clear hq hr
                go_wp2_with (go_at_call 133; refine (may_any _ wh).mono ?_; rintro e w' ⟨rfl, hw⟩; replace hw := hw.symm; subst hw)
                go_ret
                exact ⟨by rw [H3.out]; rfl, L0.out.trans (L4.out.mono L0.out.size)⟩
              · have hq' : ((n2 : Int) == (m : Int)) = false := by simp; omega
                have hr := H2.out
                rw [decide_eq_false hq, Bool.false_and] at hr
                have H3 := Lib.hid hr
                clear hq hr
                go_wp2_with (go_at_call 133; refine (may_any _ wh).mono ?_; rintro e w' ⟨rfl, hw⟩; replace hw := hw.symm; subst hw)
                go_ret
                exact ⟨by rw [H3.out]; rfl, L0.out.trans (L4.out.mono L0.out.size)⟩
            ·
              go_simp
              refine hK _ _ ?_
              clear hK K
              refine wpAny_ready (rs := [5]) (by kernel_rfl) (by simp) ?_
              refine (AllReady.cons rfl (fun K hK => ?_) AllReady.nil)
              go_simp
              refine hK _ _ ?_
              clear hK K
              refine wpAny_head (C := fun w' => w' = w4) 9 9 rfl (by kernel_rfl) ?_ (by rfl)
              refine wpQuiet_nil ?_
              rintro _ rfl
              have cw := CW.out _ L4.out
              by_cases hq : n2 = m
              · have hq' : ((n2 : Int) == (m : Int)) = true := by simp [hq]
                have hr := H2.out
                rw [decide_eq_true hq, Bool.true_and] at hr
                have H3 := Lib.hid hr
                clear hq hr
                go_wp2_with (go_at_call 133; refine (may_any _ wh).mono ?_; rintro e w' ⟨rfl, hw⟩; replace hw := hw.symm; subst hw)
                go_ret
                exact ⟨by rw [H3.out]; rfl, L0.out.trans (L4.out.mono L0.out.size)⟩
              · have hq' : ((n2 : Int) == (m : Int)) = false := by simp; omega
                have hr := H2.out
                rw [decide_eq_false hq, Bool.false_and] at hr
                have H3 := Lib.hid hr
                clear hq hr
                go_wp2_with (go_at_call 133; refine (may_any _ wh).mono ?_; rintro e w' ⟨rfl, hw⟩; replace hw := hw.symm; subst hw)
                go_ret
                exact ⟨by rw [H3.out]; rfl, L0.out.trans (L4.out.mono L0.out.size)⟩
          ·
            go_simp
            refine hK _ _ ?_
            clear hK K
            refine wpAny_ready (rs := [4]) (by kernel_rfl) (by simp) ?_
            refine (AllReady.cons rfl (fun K hK => ?_) AllReady.nil)
            go_simp
            refine (CS.out _ LD.out).mono ?_
            rintro e w5 ⟨A5, c5, rfl, _, h2⟩
            have L5 := Lib.hid (LD.out.trans (h2.mono LD.out.size))
            clear h2
            refine hK _ _ ?_
            clear hK K
            refine wpAny_ready (rs := [5]) (by kernel_rfl) (by simp) ?_
            refine (AllReady.cons rfl (fun K hK => ?_) AllReady.nil)
            go_simp
            refine hK _ _ ?_
            clear hK K
            refine wpAny_head (C := fun w' => w' = w5) 9 9 rfl (by kernel_rfl) ?_ (by rfl)
            refine wpQuiet_nil ?_
            rintro _ rfl
            have cw := CW.out _ L5.out
            by_cases hq : n2 = m
            · have hq' : ((n2 : Int) == (m : Int)) = true := by simp [hq]
              have hr := H2.out
              rw [decide_eq_true hq, Bool.true_and] at hr
              have H3 := Lib.hid hr
              clear hq hr
              go_wp2_with (go_at_call 133; refine (may_any _ wh).mono ?_; rintro e w' ⟨rfl, hw⟩; replace hw := hw.symm; subst hw)
              go_ret
              exact ⟨by rw [H3.out]; rfl, L0.out.trans (L5.out.mono L0.out.size)⟩
            · have hq' : ((n2 : Int) == (m : Int)) = false := by simp; omega
              have hr := H2.out
              rw [decide_eq_false hq, Bool.false_and] at hr
              have H3 := Lib.hid hr
              clear hq hr
              go_wp2_with (go_at_call 133; refine (may_any _ wh).mono ?_; rintro e w' ⟨rfl, hw⟩; replace hw := hw.symm; subst hw)
              go_ret
              exact ⟨by rw [H3.out]; rfl, L0.out.trans (L5.out.mono L0.out.size)⟩
        ·
          go_simp
          refine hK _ _ ?_
          clear hK K
          refine wpAny_ready (rs := [3]) (by kernel_rfl) (by simp) ?_
          refine (AllReady.cons rfl (fun K hK => ?_) AllReady.nil)
          refine step_cellg (by rfl) 25 (.tmp 16) rfl ⟨g, 32, none⟩ rfl (.slice B m d) (Tryz.isAgg25 _) (CP.out _ LD.out) ?_
          refine hK _ _ ?_
          clear hK K
          refine wpAny_ready (rs := [4]) (by kernel_rfl) (by simp) ?_
          refine (AllReady.cons rfl (fun K hK => ?_) AllReady.nil)
          go_simp
          refine (CS.out _ LD.out).mono ?_
          rintro e w6 ⟨A6, c6, rfl, _, h2⟩
          have L6 := Lib.hid (LD.out.trans (h2.mono LD.out.size))
          clear h2
          refine hK _ _ ?_
          clear hK K
          refine wpAny_ready (rs := [5]) (by kernel_rfl) (by simp) ?_
          refine (AllReady.cons rfl (fun K hK => ?_) AllReady.nil)
          go_simp
          refine hK _ _ ?_
          clear hK K
          refine wpAny_head (C := fun w' => w' = w6) 9 9 rfl (by kernel_rfl) ?_ (by rfl)
          refine wpQuiet_nil ?_
          rintro _ rfl
          have cw := CW.out _ L6.out
          by_cases hq : n2 = m
          · have hq' : ((n2 : Int) == (m : Int)) = true := by simp [hq]
            have hr := H2.out
            rw [decide_eq_true hq, Bool.true_and] at hr
            have H3 := Lib.hid hr
            clear hq hr
            go_wp2_with (go_at_call 133; refine (may_any _ wh).mono ?_; rintro e w' ⟨rfl, hw⟩; replace hw := hw.symm; subst hw)
            go_ret
            exact ⟨by rw [H3.out]; rfl, L0.out.trans (L6.out.mono L0.out.size)⟩
          · have hq' : ((n2 : Int) == (m : Int)) = false := by simp; omega
            have hr := H2.out
            rw [decide_eq_false hq, Bool.false_and] at hr
            have H3 := Lib.hid hr
            clear hq hr
            go_wp2_with (go_at_call 133; refine (may_any _ wh).mono ?_; rintro e w' ⟨rfl, hw⟩; replace hw := hw.symm; subst hw)
            go_ret
            exact ⟨by rw [H3.out]; rfl, L0.out.trans (L6.out.mono L0.out.size)⟩
    · have iz : ¬ ((nb.size : Int) ≤ 100) := by omega
      have hr := HR.out
      rw [decide_eq_false hz, Bool.and_false, Bool.false_and, Bool.false_and] at hr
      have H2 := Lib.hid hr
      clear h4 hz hr
      go_upto_region 2 with fail
      have hemp := ext_nonempty w0
      refine wp_region_ext (by kernel_rfl) (by kernel_rfl) ?_
      repeat (first | quiet_step (fail) | go_big_quiet_step (fail))
      refine wpQuiet_nil ?_
      rintro _ ⟨s9, rfl⟩
      go_wp2
      go_ret
      exact ⟨by rw [H2.out]; rfl, L0.out.trans (s9.below.mono L0.out.size)⟩
  · have i4 : ¬ ((m : Int) ≤ 4) := by omega
    have hr := HR.out
    rw [decide_eq_false h4, Bool.false_and, Bool.false_and, Bool.false_and] at hr
    have H2 := Lib.hid hr
    clear h4 hr
    go_upto_region 2 with fail
    have hemp := ext_nonempty w0
    refine wp_region_ext (by kernel_rfl) (by kernel_rfl) ?_
    repeat (first | quiet_step (fail) | go_big_quiet_step (fail))
    refine wpQuiet_nil ?_
    rintro _ ⟨s9, rfl⟩
    go_wp2
    go_ret
    exact ⟨by rw [H2.out]; rfl, L0.out.trans (s9.below.mono L0.out.size)⟩
end Go.Proofs.YtpbnigpdpkfpaaaGreatDoor
