/- Entries of a tree as cells; a row of them that a caller hands over. Structs of many cells, whole: read out of a place, laid into a block. Structs built of parts of many cells. Slices built of elements of many cells. -/
import Derived.Test.YtcomibocajjhoaaGreatDoorP5x
import Derived.Test.YtcomibocajjhoaaGreatDoorRk
import Derived.Test.YtcomibocajjhoaaGreatDoorLp
import Derived.Test.YtcomibocajjhoaaGreatDoorLy
import Derived.Deep.Strs
import Derived.Test.YtcomibocajjhoaaGreatDoorP6x
import Derived.Great.BuildSlice
namespace Go.Proofs.YtcomibocajjhoaaGreatDoor
open Go.RowKit Go.ChangeShapes Go.WideShapes Go.ChangeAt Go.Deep
def encE (e : Ent) : List Value := [.string ⟨e.nm.toArray⟩, .bool e.tr] ++ encI e.id
/-- An entry's cells. -/
def entE : Enc Ent := ⟨encE, 34, fun e => by simp [encE, encI_len], fun e v hv => by
  simp only [encE, List.cons_append, List.nil_append, List.mem_cons] at hv
  rcases hv with rfl | rfl | h
  · rfl
  · rfl
  · exact encI_one _ v h, by decide⟩
/-- A name's cells. -/
def idtE : Enc Idt := ⟨encI, 32, encI_len, encI_one, by decide⟩
/-- A text's cell. -/
def strE : Enc (List UInt8) := ⟨fun s => [.string ⟨s.toArray⟩], 1, fun _ => rfl, fun s v hv => by rw [List.mem_singleton.1 hv]; rfl, by decide⟩
section
variable {H : Type} {enc : TypeId × Value → H} {w : World} {base : Nat} {spare : Nat → Bool} {held : Bool}
theorem ent_of_trod {cs : List Value} {x : DataW H × List MemPlace} {fuel : Nat} (hf : DataW.trod enc Tryz.prog w base spare held fuel 39 cs = some x) : ∃ e : Ent, cs = encE e ∧ e.nm.length ≤ maxLen := by
  obtain ⟨y0, y1, y2, n, _, hl, h0, h1, h2⟩ := trod_struct3 Tryz.underlying39 hf
  have c0 : Tryz.prog.cellsOf 9 = 1 := by kernel_rfl
  have c1 : Tryz.prog.cellsOf 4 = 1 := by kernel_rfl
  have c2 : Tryz.prog.cellsOf 30 = 32 := by kernel_rfl
  have c3 : Tryz.prog.cellsOf 39 = 34 := by kernel_rfl
  rw [c3] at hl
  simp only [c0, c1, c2] at h0 h1 h2
  obtain ⟨s, hs, _, hsm⟩ := DataW.trod_string (by kernel_rfl) h0
  obtain ⟨b, hb, _⟩ := DataW.trod_bool (by kernel_rfl) h1
  obtain ⟨l, hid, h32⟩ := name_of_trod Tryz.underlying30 Tryz.underlying5 (by kernel_rfl) c2 h2
  refine ⟨⟨s.data.toList, b, ⟨l, h32⟩⟩, ?_, by rw [ba_size] at hsm; exact hsm⟩
  match cs, hl with
  | a :: d :: r, hl =>
    have e0 : a = .string s := by simpa using hs
    have e1 : d = .bool b := by simpa using hb
    have e2 : r = Bs l := by
      have : r.take 32 = Bs l := by simpa using hid
      rwa [List.take_of_length_le (by simp at hl; omega)] at this
    rw [e0, e1, e2]
    simp [encE, encI]
set_option maxRecDepth 100000 in
/-- A row of entries that a caller hands over. -/
theorem open_row_ents {r : Reach} {b0 : Nat} {t : TypeId} {v : Value} {d : DataW H} {ps : List MemPlace} (ht : Tryz.prog.underlying t = some (.slice 39))
    (hval : Value.okWide Tryz.prog w r b0 t v) (hd : DataW.Trod enc Tryz.prog w base spare held t v d ps) :
    ∃ A n c, ∃ l : List Ent, v = .slice A n c ∧ n ≤ c ∧ c ≤ maxLen ∧ Src w entE.k A n (entE.row l) ∧ ∀ e ∈ l, e.nm.length ≤ maxLen := by
  have hc : Tryz.prog.cellsOf 39 = 34 := by kernel_rfl
  have hk : entE.k = 34 := rfl
  obtain ⟨A, n, c, rfl⟩ := okWide_slice ht hval
  obtain ⟨fuel, hf⟩ := hd
  rcases open_slice ht hf with ⟨h1, _⟩ | ⟨a, len, cap, m, q, D, Pl, h1, _, hl, hm, hmm, hx, hV⟩
  · have h2 : A = none ∧ n = 0 ∧ c = 0 := by simpa [Value.cells] using h1
    obtain ⟨rfl, rfl, rfl⟩ := h2
    exact ⟨none, 0, 0, [], rfl, Nat.le_refl _, Nat.zero_le _, ⟨entE.row_len [], fun h => absurd h (Nat.lt_irrefl 0), fun u hu => absurd hu (by simp [Enc.row])⟩, fun e he => absurd he (by simp)⟩
  · have h2 : A = some a ∧ n = len ∧ c = cap := by simpa [Value.cells] using h1
    obtain ⟨rfl, rfl, rfl⟩ := h2
    have hnm : n ≤ m := by rw [hmm]; split <;> omega
    rw [hc] at hV
    have hz : ∀ i, i < n → ∃ x : Ent, (∀ j, j < 34 → w.cell? ((a.add (i * 34)).add j) = (encE x)[j]?) ∧ x.nm.length ≤ maxLen := fun i hi => by
      obtain ⟨cs, h3, h4⟩ := hV i (by omega)
      obtain ⟨_, _, h5⟩ := World.cells?_some h3
      obtain ⟨e, rfl, h6⟩ := ent_of_trod h4
      exact ⟨e, h5, h6⟩
    obtain ⟨X, hX⟩ := choose_lt hz
    have hll : ((List.range n).map X).length = n := by simp
    refine ⟨some a, n, c, (List.range n).map X, rfl, hl, hm, ⟨by rw [entE.row_len, hll], fun _ => ⟨a, rfl, fun t u hu => ?_⟩, entE.row_one _⟩, fun e he => by
      obtain ⟨i, hi, rfl⟩ := List.mem_map.1 he
      exact (hX i (by simpa using hi)).2⟩
    have ht2 : t < n * 34 := by
      have := (List.getElem?_eq_some_iff.1 hu).1
      rw [entE.row_len, hll] at this
      exact this
    have h3 := (hX (t / 34) (by omega)).1 (t % 34) (by omega)
    have ha : (a.add (t / 34 * 34)).add (t % 34) = a.add t := by
      have e : t / 34 * 34 + t % 34 = t := by omega
      unfold Addr.add
      by_cases h1 : t / 34 * 34 = 0
      · rw [if_pos h1, show t % 34 = t by omega]
      · by_cases h2 : t % 34 = 0
        · simp [h2, show t ≠ 0 by omega, show t / 34 * 34 = t by omega]
        · simp [h1, h2, show t ≠ 0 by omega, Nat.add_assoc, e]
    rw [ha] at h3
    have hel : (encE (X (t / 34))).length = 34 := entE.len _
    have hi : t % 34 < (encE (X (t / 34))).length := by rw [hel]; omega
    have ej : ((List.range n).map X)[t / 34]! = X (t / 34) := by
      have hlt : t / 34 < ((List.range n).map X).length := by rw [hll]; omega
      rw [getElem!_pos ((List.range n).map X) (t / 34) hlt]
      simp
    have h4 := entE.row_at ((List.range n).map X) (t / 34) (t % 34) (encE (X (t / 34)))[t % 34] (by rw [hll]; omega) (by rw [ej]; exact List.getElem?_eq_getElem hi)
    have h5 : (entE.row ((List.range n).map X))[t / 34 * 34 + t % 34]? = some (encE (X (t / 34)))[t % 34] := h4
    rw [show t / 34 * 34 + t % 34 = t by omega, hu] at h5
    rw [h3, List.getElem?_eq_getElem hi, h5]
end
end Go.Proofs.YtcomibocajjhoaaGreatDoor
namespace Go.Proofs.YtcomibocajjhoaaGreatDoor
open Go.RowKit
section
variable {P : Program}
theorem run_loadS (w : World) (ty : TypeId) (ad : Addr) (cs : List Value) (hagg : (isAgg ty).run P w = .ok true w) (hi : (P.info? ty).map (·.size) = some cs.length)
    (h : ∀ j v, cs[j]? = some v → w.cell? (ad.add j) = some v) : (Instr.loadAt ty (.pointer (some ad))).run P w = .ok (.agg cs.toArray) w := by
  have hl : (loadCells ad cs.length).run P w = .ok cs.toArray w := run_loadCells_list (P := P) (w := w) ad cs h
  have : (loadVar ty ad).run P w = .ok (.agg cs.toArray) w := by
    cases hq : P.info? ty with
    | none => simp [hq] at hi
    | some i =>
      have hs : i.size = cs.length := by simpa [hq] using hi
      simp [loadVar, hagg, sizeOf, typeInfo, hq, hs, hl]
  simpa [Instr.loadAt, Instr.sureAddr] using this
variable {ops : Array Oper} {rest : List Oper} {o : Oper} {a : Act} {w : World} {C : World → Prop}
theorem wpl_loadS {Q : Exit → Act → World → Prop} (hgd : o.guard = none) (ty : TypeId) (x : Operand) (ho : o.op = .load ty x) (ad : Addr) (hx : a.eval x = .pointer (some ad)) (cs : List Value) (hagg : ∀ w, (isAgg ty).run P w = .ok true w) (hi : (P.info? ty).map (·.size) = some cs.length)
    (hc : ∀ j v, cs[j]? = some v → w.cell? (ad.add j) = some v) (h : wpList P ops Q rest (a.put o.dst (.agg cs.toArray)) w) : wpList P ops Q (o :: rest) a w := by
  refine wpList_plain hgd fun K hK => ?_
  unfold Oper.wp execOp
  simp only [ho, hx, Sem.run_bind, Sem.run_pure, Result.andThen_ok, run_loadS w ty ad cs (hagg w) hi hc]
  exact hK _ _ h
theorem wpQuiet_loadS {Q : Act → Prop} (hgd : Region.wanted o (yielded ops a.tmps) = true) (ty : TypeId) (x : Operand) (ho : o.op = .load ty x) (ad : Addr) (hx : a.eval x = .pointer (some ad)) (cs : List Value) (hagg : ∀ w, (isAgg ty).run P w = .ok true w) (hi : (P.info? ty).map (·.size) = some cs.length)
    (hc : ∀ w, C w → ∀ j v, cs[j]? = some v → w.cell? (ad.add j) = some v) (h : wpQuiet P ops C Q rest (a.put o.dst (.agg cs.toArray))) : wpQuiet P ops C Q (o :: rest) a := by
  refine wpQuiet_val hgd (.agg cs.toArray) (fun w hw => ?_) h
  unfold execOp
  simp only [ho, hx]
  simp [run_loadS w ty ad cs (hagg w) hi (hc w hw)]
theorem wpl_storeS {Q : Exit → Act → World → Prop} (hgd : o.guard = none) (ty : TypeId) (x y : Operand) (ho : o.op = .store ty x y) (g : Nat) (cs' : List Value) (hx : a.eval x = .pointer (some ⟨g, 0, none⟩)) (hy : a.eval y = .agg cs'.toArray) (t : TypeId) (cs : List Value) (hb : Blk w g t cs)
    (hi : (P.info? ty).map (·.size) = some cs'.length) (hl : cs.length = cs'.length) (h1 : ∀ v ∈ cs', v.oneCell' = true) (h : wpList P ops Q rest (a.put o.dst undef) (w.setRow g cs'.toArray)) : wpList P ops Q (o :: rest) a w :=
  wpList_store_row hgd ty x y ho g cs'.toArray hx hy t cs.toArray hb (by simpa using hi) (by simpa using hl) (by rw [Array.all_eq_true_iff_forall_mem]; intro v hv; exact h1 v (by simpa using hv)) h
end
/-- An entry of noughts. -/
def zeroE : List Value := encE ⟨[], false, default⟩
theorem zE_eq : (Obj.cells (#[.string ⟨#[]⟩, .bool false] ++ zero32.toArray) 39 : Obj) = .cells zeroE.toArray 39 := rfl
theorem infoE (e : Ent) : (Tryz.prog.info? 39).map (·.size) = some (encE e).length := by
  have h : (Tryz.prog.info? 39).map (·.size) = some 34 := by kernel_rfl
  rw [h]
  exact congrArg some (entE.len e).symm
/-- An entry laid in a block of its own. -/
theorem ent_laid (w : World) (e : Ent) : Below w.heap.size w ((w.alloc (.cells zeroE.toArray 39)).setRow w.heap.size (encE e).toArray) ∧
    Blk ((w.alloc (.cells zeroE.toArray 39)).setRow w.heap.size (encE e).toArray) w.heap.size 39 (encE e) :=
  ⟨below_setRow' ((Below.refl _ _).alloc (Nat.le_refl _) _) (Nat.le_refl _) _, (Blk.new w 39 zeroE).row _⟩
end Go.Proofs.YtcomibocajjhoaaGreatDoor
namespace Go.Proofs.YtcomibocajjhoaaGreatDoor
open Go.RowKit
theorem fold_put (l : List Value) : ∀ (off s : Nat) (cs : Array Value), off + s + l.length ≤ cs.size → (l.zipIdx s).foldl (fun cs (x : Value × Nat) => cs.setIfInBounds (off + x.2) x.1) cs = (cs.toList.take (off + s) ++ l ++ cs.toList.drop (off + s + l.length)).toArray := by
  induction l with
  | nil => intro off s cs _; simp
  | cons v r ih =>
    intro off s cs h
    simp only [List.length_cons] at h
    rw [List.zipIdx_cons, List.foldl_cons, ih off (s + 1) _ (by simp; omega)]
    have hs : off + s < cs.toList.length := by simp; omega
    simp only [Array.toList_setIfInBounds, List.length_cons]
    rw [show off + (s + 1) = off + s + 1 by omega, List.take_add_one, List.getElem?_set_self hs, List.take_set_of_le (Nat.le_refl _), List.drop_set_of_lt (by omega)]
    simp only [Option.toList_some, List.append_assoc, List.cons_append, List.nil_append]
    rw [show off + s + 1 + r.length = off + s + (r.length + 1) by omega]
theorem fill_one (place : Nat → Option (Nat × Nat)) (cells : Array Value) (i : Nat) (v : Value) (rest : List (Nat × Value)) (off : Nat) (cx : List Value) (hv : v.cells = cx.toArray) (hp : place i = some (off, cx.length)) (h : off + cx.length ≤ cells.size) :
    Instr.fill place cells ((i, v) :: rest) = Instr.fill place (cells.toList.take off ++ cx ++ cells.toList.drop (off + cx.length)).toArray rest := by
  rw [Instr.fill, hp]
  simp only [hv]
  rw [if_neg (by simp; omega)]
  congr 1
  rw [← Array.foldl_toList, Array.toList_zipIdx]
  have := fold_put cx off 0 cells (by omega)
  simpa using this
theorem built_fill {P : Program} {t : TypeId} {parts : List (Nat × Value)} (z : Array Value) (places : List (Nat × Nat)) (fs : Array Field) (it : TypeInfo) (hi : P.info? t = some it) (hu : P.underlying t = some (.struct fs)) (hz : it.zero.map Value.cells = some z)
    (hp : (fs.toList.mapM fun f => (P.info? f.type).map fun i => (f.offset, i.size)) = some places) : P.built t parts = Instr.fill (fun x => places.toArray[x]?) z parts := by
  unfold Program.built
  obtain ⟨v, hv, rfl⟩ := Option.map_eq_some_iff.1 hz
  simp only [hi, hu, hv, hp]
/-- What is asked of a struct's type, once. -/
def BuiltAs (P : Program) (t : TypeId) (z : List Value) (places : List (Nat × Nat)) : Prop := ∀ parts, P.built t parts = Instr.fill (fun x => places.toArray[x]?) z.toArray parts
theorem builtE : BuiltAs Tryz.prog 39 zeroE [(0, 1), (1, 1), (2, 32)] := fun parts => by
  obtain ⟨it, hi, hz⟩ : ∃ it, Tryz.prog.info? 39 = some it ∧ it.zero.map Value.cells = some zeroE.toArray := by
    have h : (Tryz.prog.info? 39).map (fun it => it.zero.map Value.cells) = some (some zeroE.toArray) := by kernel_rfl
    exact Option.map_eq_some_iff.1 h
  exact built_fill _ _ _ it hi Tryz.underlying39 hz (by kernel_rfl)
theorem infoId (x : Idt) : (Tryz.prog.info? 30).map (·.size) = some (encI x).length := by rw [Tryz.sizeId, encI_len]
theorem ba_data (s : ByteArray) : (⟨s.data.toList.toArray⟩ : ByteArray) = s := by cases s; simp
theorem built_ent (nm : ByteArray) (tr : Bool) (id : Idt) : Tryz.prog.built 39 [(0, .string nm), (1, .bool tr), (2, .agg (encI id).toArray)] = some (encE ⟨nm.data.toList, tr, id⟩).toArray := by
  have hl := encI_len id
  rw [builtE, fill_one _ _ 0 _ _ 0 [.string nm] rfl (by simp) (by simp [zeroE, encE, encI_len]), fill_one _ _ 1 _ _ 1 [.bool tr] rfl (by simp) (by simp [zeroE, encE, encI_len]), fill_one _ _ 2 _ _ 2 (encI id) rfl (by simp [hl]) (by simp [zeroE, encE, encI_len]), Instr.fill]
  simp [zeroE, encE, hl, encI_len]
theorem built_nameE (nm : ByteArray) (tr : Bool) : Tryz.prog.built 39 [(0, .string nm), (1, .bool tr)] = some (encE ⟨nm.data.toList, tr, default⟩).toArray := by
  rw [builtE, fill_one _ _ 0 _ _ 0 [.string nm] rfl (by simp) (by simp [zeroE, encE, encI_len]), fill_one _ _ 1 _ _ 1 [.bool tr] rfl (by simp) (by simp [zeroE, encE, encI_len]), Instr.fill]
  simp [zeroE, encE]
/-- A struct built, as one step of a region that draws. -/
theorem step_build {P : Program} {ops : Array Oper} {o : Oper} {a : Act} {w : World} {K : Act → World → Prop} {Q : Exit → Act → World → Prop} {E : Prop} (hgd : Region.wanted o (yielded ops a.tmps) = true) (t : TypeId) (parts : List (Nat × Operand)) (ho : o.op = .build t parts.toArray) (cs : Array Value) (hb : P.built t (parts.map fun (i, x) => (i, a.eval x)) = some cs)
    (h : K (a.put o.dst (.agg cs)) w) : if Region.wanted o (yielded ops a.tmps) = true then Oper.wp P o a w K Q else E := by
  rw [if_pos hgd]
  have hb' : P.built t (parts.toArray.map fun (i, x) => (i, a.eval x)).toList = some cs := by rw [List.map_toArray]; exact hb
  refine wp_build t parts.toArray ho (by rw [hb']; rfl) ?_
  rw [hb']
  exact h
/-- A struct built, in the walk. -/
theorem wpl_buildP {P : Program} {ops : Array Oper} {rest : List Oper} {o : Oper} {a : Act} {Q : Exit → Act → World → Prop} {w : World} (hgd : o.guard = none) (t : TypeId) (parts : List (Nat × Operand)) (ho : o.op = .build t parts.toArray) (cs : List Value) (hb : P.built t (parts.map fun (i, x) => (i, a.eval x)) = some cs.toArray)
    (h : wpList P ops Q rest (a.put o.dst (.agg cs.toArray)) w) : wpList P ops Q (o :: rest) a w :=
  wpl_build hgd t parts.toArray ho cs (by rw [List.map_toArray]; exact hb) h
/-- A struct stored whole, as one step of a region that draws. -/
theorem step_storeS {P : Program} {ops : Array Oper} {o : Oper} {a : Act} {w : World} {K : Act → World → Prop} {Q : Exit → Act → World → Prop} {E : Prop} (hgd : Region.wanted o (yielded ops a.tmps) = true) (ty : TypeId) (x y : Operand) (ho : o.op = .store ty x y) (g : Nat) (cs' : List Value) (hx : a.eval x = .pointer (some ⟨g, 0, none⟩)) (hy : a.eval y = .agg cs'.toArray) (t : TypeId) (cs : List Value) (hb : Blk w g t cs)
    (hi : (P.info? ty).map (·.size) = some cs'.length) (hl : cs.length = cs'.length) (h1 : ∀ v ∈ cs', v.oneCell' = true) (h : K (a.put o.dst undef) (w.setRow g cs'.toArray)) : if Region.wanted o (yielded ops a.tmps) = true then Oper.wp P o a w K Q else E := by
  rw [if_pos hgd]
  exact wp_store_row ty x y ho g cs'.toArray hx hy t cs.toArray hb (by simpa using hi) (by simpa using hl) (by rw [Array.all_eq_true_iff_forall_mem]; intro v hv; exact h1 v (by simpa using hv)) h
/-- An array behind a slice's pointer: no memory is looked at. -/
theorem step_arrPtr {P : Program} {ops : Array Oper} {o : Oper} {a : Act} {w : World} {K : Act → World → Prop} {Q : Exit → Act → World → Prop} {E : Prop} (hgd : Region.wanted o (yielded ops a.tmps) = true) (t : TypeId) (x : Operand) (ho : o.op = .sliceToArrayPointer t x) (n : Nat) (e : TypeId) (ht : P.underlying t = some (.array n e)) (A : Option Addr) (m c : Nat) (hx : a.eval x = .slice A m c) (hn : n ≤ m)
    (h : K (a.put o.dst (.pointer A)) w) : if Region.wanted o (yielded ops a.tmps) = true then Oper.wp P o a w K Q else E := by
  rw [if_pos hgd]
  have hr : (Instr.arrayAt t (.slice A m c)).run P w = .ok (.pointer A) w := by
    have : ¬ m < n := by omega
    simp [Instr.arrayAt, run_underlying ht, this]
  unfold Oper.wp execOp
  simp only [ho, hx, Sem.run_bind, Sem.run_pure, Result.andThen_ok, hr]
  exact h
/-- A conversion that makes memory, as one step of a region that draws. -/
theorem step_convw {P : Program} {ops : Array Oper} {o : Oper} {a : Act} {w : World} {K : Act → World → Prop} {Q : Exit → Act → World → Prop} {E : Prop} (hgd : Region.wanted o (yielded ops a.tmps) = true) (t1 t2 : TypeId) (x : Operand) (ho : o.op = .convert t1 t2 x) (v : Value) (w1 : World) (h0 : (convert t1 t2 (a.eval x)).run P w = .ok v w1)
    (h : K (a.put o.dst v) w1) : if Region.wanted o (yielded ops a.tmps) = true then Oper.wp P o a w K Q else E := by
  rw [if_pos hgd]
  unfold Oper.wp execOp
  simp only [ho, Sem.run_bind, Sem.run_pure, Result.andThen_ok, h0]
  exact h
/-- A name read, as one step of a region that draws. -/
theorem step_loadI {P : Program} {ops : Array Oper} {o : Oper} {a : Act} {w : World} {K : Act → World → Prop} {Q : Exit → Act → World → Prop} {E : Prop} (hgd : Region.wanted o (yielded ops a.tmps) = true) (ty : TypeId) (x : Operand) (ho : o.op = .load ty x) (ad : Addr) (hx : a.eval x = .pointer (some ad)) (cs : List Value)
    (hagg : (isAgg ty).run P w = .ok true w) (hi : (P.info? ty).map (·.size) = some cs.length) (hc : ∀ j v, cs[j]? = some v → w.cell? (ad.add j) = some v) (h : K (a.put o.dst (.agg cs.toArray)) w) :
    if Region.wanted o (yielded ops a.tmps) = true then Oper.wp P o a w K Q else E := by
  rw [if_pos hgd]
  unfold Oper.wp execOp
  simp only [ho, hx, Sem.run_bind, Sem.run_pure, Result.andThen_ok, run_loadS w ty ad cs hagg hi hc]
  exact h
theorem res_rowS3 {P : Program} {fn : Func} {p q r : Tmp} {ty : TypeId} (h : fn.results = #[.cell p ty, .tmp q, .tmp r]) (tmps : Array Value) (w : World) (g : Nat) (t : TypeId) (cs : List Value) (d : TypeDesc)
    (hp : tmps.getD p undef = .pointer (some ⟨g, 0, none⟩)) (hg : Blk w g t cs) (hu : P.underlying ty = some d) (hd : (match d with | .struct _ | .array _ _ => true | _ => false) = true) (hi : (P.info? ty).map (·.size) = some cs.length) :
    (results fn tmps).run P w = .ok (.tuple #[.agg cs.toArray, tmps.getD q undef, tmps.getD r undef]) w := by
  have hp' : tmps[p]?.getD undef = .pointer (some ⟨g, 0, none⟩) := by simpa using hp
  simp [results, h, hp', asAddr, run_loadVar_row w g t ty cs.toArray (0, 0) _ hg hu hd (by simpa using hi)]
end Go.Proofs.YtcomibocajjhoaaGreatDoor
namespace Go.Proofs.YtcomibocajjhoaaGreatDoor
open Go.RowKit
namespace Enc
variable {α : Type} (E : Enc α)
theorem fill_rows (l : List α) : ∀ (s : Nat) (done rest : List Value), done.length = s * E.k → rest.length = l.length * E.k →
    Instr.fill (fun i => some (i * E.k, E.k)) (done ++ rest).toArray ((l.zipIdx s).map fun x => (x.2, Value.agg (E.enc x.1).toArray)) = some (done ++ E.row l).toArray := by
  induction l with
  | nil =>
    intro s done rest _ h
    have : rest = [] := List.eq_nil_of_length_eq_zero (by simpa using h)
    subst this
    rfl
  | cons x r ih =>
    intro s done rest h1 h2
    have hk := E.len x
    rw [List.length_cons, Nat.succ_mul] at h2
    rw [List.zipIdx_cons, List.map_cons, fill_one _ _ s _ _ (s * E.k) (E.enc x) rfl (by rw [hk]) (by simp only [List.size_toArray, List.length_append]; omega)]
    have e : ((done ++ rest).toArray.toList.take (s * E.k) ++ E.enc x ++ (done ++ rest).toArray.toList.drop (s * E.k + (E.enc x).length)) = (done ++ E.enc x) ++ rest.drop E.k := by
      rw [List.toList_toArray, List.take_append_of_le_length (by omega), List.take_of_length_le (by omega), List.drop_append, List.drop_of_length_le (by omega), hk]
      rw [show s * E.k + E.k - done.length = E.k by omega]
      rfl
    rw [e, ih (s + 1) _ _ (by rw [List.length_append, hk, Nat.succ_mul]; omega) (by rw [List.length_drop]; omega)]
    simp [row, List.append_assoc]
end Enc
section
variable {P : Program} {ops : Array Oper} {rest : List Oper} {o : Oper} {a : Act} {w : World} {α : Type}
theorem wp_buildE (E : Enc α) {K : Act → World → Prop} {Q : Exit → Act → World → Prop} (t e : TypeId) (len : Nat) (parts : List (Nat × Operand)) (ho : o.op = .buildSlice t len parts.toArray) (l : List α) (hl : l.length = len)
    (hp : (parts.map fun (i, x) => (i, a.eval x)) = (l.zipIdx 0).map fun x => (x.2, Value.agg (E.enc x.1).toArray)) (z : Value) (bytes : Nat) (hu : P.underlying t = some (.slice e)) (hinfo : (P.info? e).map (fun i => (i.zero, i.size, i.bytes)) = some (some z, E.k, bytes)) (hs : len * E.k ≤ 16777216) (h0 : 0 < len)
    (h : K (a.put o.dst (.slice (some ⟨w.heap.size, 0, none⟩) len len)) (w.alloc (.cells (E.row l).toArray e))) : o.wp P a w K Q := by
  obtain ⟨ie, hi, hzz⟩ := Option.map_eq_some_iff.1 hinfo
  simp only [Prod.mk.injEq] at hzz
  obtain ⟨hz, hsz, _⟩ := hzz
  have hpos := E.pos
  have hm : 0 < len * E.k := Nat.mul_pos h0 hpos
  refine wp_buildSlice t e len parts.toArray ho (E.row l).toArray ie z hu hi hz (by rw [hsz]; omega) (by rw [hsz]; omega) ?_ h
  have hq : (parts.toArray.map fun (i, x) => (i, a.eval x)).toList = parts.map fun (i, x) => (i, a.eval x) := by simp
  rw [hq, hsz, hp]
  have := E.fill_rows l 0 [] ((Array.range (len * E.k)).map (z.cells[· % z.cells.size]!)).toList (by simp) (by simp [hl])
  simp only [List.nil_append, Array.toArray_toList] at this
  exact this
theorem wpl_buildE (E : Enc α) {Q : Exit → Act → World → Prop} (hg : o.guard = none) (t e : TypeId) (len : Nat) (parts : List (Nat × Operand)) (ho : o.op = .buildSlice t len parts.toArray) (l : List α) (hl : l.length = len)
    (hp : (parts.map fun (i, x) => (i, a.eval x)) = (l.zipIdx 0).map fun x => (x.2, Value.agg (E.enc x.1).toArray)) (z : Value) (bytes : Nat) (hu : P.underlying t = some (.slice e)) (hinfo : (P.info? e).map (fun i => (i.zero, i.size, i.bytes)) = some (some z, E.k, bytes)) (hs : len * E.k ≤ 16777216) (h0 : 0 < len)
    (h : wpList P ops Q rest (a.put o.dst (.slice (some ⟨w.heap.size, 0, none⟩) len len)) (w.alloc (.cells (E.row l).toArray e))) : wpList P ops Q (o :: rest) a w :=
  wpList_plain hg fun _ hK => wp_buildE E t e len parts ho l hl hp z bytes hu hinfo hs h0 (hK _ _ h)
end
theorem Tryz.infoEz : (Tryz.prog.info? 39).map (fun i => (i.zero, i.size)) = some (some (.agg zeroE.toArray), 34) := by kernel_rfl
theorem row_src {α : Type} (E : Enc α) (w : World) (t : TypeId) (l : List α) : Src (w.alloc (.cells (E.row l).toArray t)) E.k (some ⟨w.heap.size, 0, none⟩) l.length (E.row l) :=
  ⟨E.row_len l, fun _ => ⟨_, rfl, fun j u hu => by
    rw [addr_row _ rfl, Nat.zero_add]
    exact (Blk.new w t _).cell j u hu⟩, E.row_one l⟩
/-- A row that is just built is the call's own. -/
theorem row_new {α : Type} (E : Enc α) (w : World) (base : Nat) (t : TypeId) (l : List α) (hb : base ≤ w.heap.size) (hm : l.length ≤ maxLen) : RowQ (w.alloc (.cells (E.row l).toArray t)) base t E.k (.slice (some ⟨w.heap.size, 0, none⟩) l.length l.length) l.length (E.row l) :=
  ⟨E.row_len l, .inr ⟨w.heap.size, 0, l.length, (E.row l).toArray, rfl, hb, heap_alloc_new w _, Nat.le_refl _, hm, by simp [E.row_len], by simp [← E.row_len]⟩⟩
end Go.Proofs.YtcomibocajjhoaaGreatDoor
