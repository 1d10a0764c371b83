/- The laws' arguments, opened: a row of names. Entries of a tree as cells; a row of them that a caller hands over. Structs of many cells, whole: read out of a place, laid into a block. Structs built of parts of many cells. Slices built of elements of many cells. tree.Name, tree.May; the document's. tree.May, the document's MayTree: may entries be a tree's? tree.Find: the entry of a name, where it stands. tree.Path: is one of a path's parts no name? -/
import Derived.Test.YtpbnigpdpkfpaaaGreatDoorLp
import Derived.Test.YtpbnigpdpkfpaaaGreatDoorP6x
import Derived.Test.YtpbnigpdpkfpaaaGreatDoorP4x
import Derived.Test.YtpbnigpdpkfpaaaGreatDoorRk
import Derived.Deep.Strs
import Derived.Test.YtpbnigpdpkfpaaaGreatDoorP5x
import Derived.Great.BuildSlice
import Derived.Test.YtpbnigpdpkfpaaaGreatDoorNm
import Derived.Test.YtpbnigpdpkfpaaaGreatDoorSf
import Derived.Shelf.SlicesQ.IndexFunc
namespace Go.Proofs.YtpbnigpdpkfpaaaGreatDoor
open Go.RowKit Go.ChangeShapes Go.WideShapes Go.ChangeAt Go.Deep
section
variable {H : Type} {enc : TypeId × Value → H} {P : Program} {w : World} {base : Nat} {spare : Nat → Bool} {held : Bool}
theorem name_of_trod {t e : TypeId} {n : Nat} {cs : List Value} {x : DataW H × List MemPlace} {fuel : Nat} (ht : P.underlying t = some (.array n e)) (he : P.underlying e = some (.int .u8)) (hc : P.cellsOf e = 1) (hn : P.cellsOf t = n)
    (hf : DataW.trod enc P w base spare held fuel t cs = some x) : ∃ l : List UInt8, cs = Bs l ∧ l.length = n := by
  obtain ⟨d, ps⟩ := x
  obtain ⟨xs, m, rfl, _, hl, hx, hi⟩ := DataW.trod_array ht hf
  rw [hc] at hi
  have hl2 : cs.length = n := by simpa [hn] using hl
  have hz : ∀ i, i < n → ∃ z, cs[i]? = some (.int .u8 z) ∧ (Lit.int .u8 z).wf = true := fun i h => by
    have h1 := hi i h
    have h2 : i < cs.length := by omega
    have h3 : ((cs.drop (i * 1)).take 1) = [cs[i]] := by
      rw [Nat.mul_one, List.drop_eq_getElem_cons h2]
      rfl
    rw [h3, List.getElem?_eq_getElem (by omega : i < xs.length)] at h1
    obtain ⟨z, h4, h5⟩ := trod_int1 he (d := (xs[i]'(by omega)).1) (ps := (xs[i]'(by omega)).2) h1
    exact ⟨z, by rw [List.getElem?_eq_getElem h2, h4], h5⟩
  obtain ⟨Z, hZ⟩ := choose_lt hz
  have h6 : cs = ((List.range n).map Z).map (Value.int .u8) := by
    apply List.ext_getElem?
    intro i
    by_cases h : i < n
    · rw [(hZ i h).1]
      simp [h]
    · rw [List.getElem?_eq_none (by omega), List.getElem?_eq_none (by simp; omega)]
  obtain ⟨l, hl3⟩ := bytes_of ((List.range n).map Z) (fun z h => by
    obtain ⟨i, h7, rfl⟩ := List.mem_map.1 h
    have := (hZ i (by simpa using h7)).2
    simp [Lit.wf, IntKind.min, IntKind.max, IntKind.bits, IntKind.signed] at this
    omega)
  rw [hl3] at h6
  exact ⟨l, h6, by rw [h6] at hl2; simpa [Bs] using hl2⟩
end
end Go.Proofs.YtpbnigpdpkfpaaaGreatDoor
namespace Go.Proofs.YtpbnigpdpkfpaaaGreatDoor
open Go.RowKit Go.ChangeShapes Go.WideShapes Go.ChangeAt Go.Deep
def encE (e : Ent) : List Value := [.string ⟨e.nm.toArray⟩, .bool e.tr] ++ encI e.id
/-- An entry's cells. -/
def entE : Enc Ent := ⟨encE, 34, fun e => by simp [encE, encI_len], fun e v hv => by
  simp only [encE, List.cons_append, List.nil_append, List.mem_cons] at hv
  rcases hv with rfl | rfl | h
  · rfl
  · rfl
  · exact encI_one _ v h, by decide⟩
/-- A name's cells. -/
def idtE : Enc Idt := ⟨encI, 32, encI_len, encI_one, by decide⟩
/-- A text's cell. -/
def strE : Enc (List UInt8) := ⟨fun s => [.string ⟨s.toArray⟩], 1, fun _ => rfl, fun s v hv => by rw [List.mem_singleton.1 hv]; rfl, by decide⟩
section
variable {H : Type} {enc : TypeId × Value → H} {w : World} {base : Nat} {spare : Nat → Bool} {held : Bool}
theorem ent_of_trod {cs : List Value} {x : DataW H × List MemPlace} {fuel : Nat} (hf : DataW.trod enc Tryz.prog w base spare held fuel 99 cs = some x) : ∃ e : Ent, cs = encE e ∧ e.nm.length ≤ maxLen := by
  obtain ⟨y0, y1, y2, n, _, hl, h0, h1, h2⟩ := trod_struct3 Tryz.underlying99 hf
  have c0 : Tryz.prog.cellsOf 9 = 1 := by kernel_rfl
  have c1 : Tryz.prog.cellsOf 4 = 1 := by kernel_rfl
  have c2 : Tryz.prog.cellsOf 24 = 32 := by kernel_rfl
  have c3 : Tryz.prog.cellsOf 99 = 34 := by kernel_rfl
  rw [c3] at hl
  simp only [c0, c1, c2] at h0 h1 h2
  obtain ⟨s, hs, _, hsm⟩ := DataW.trod_string (by kernel_rfl) h0
  obtain ⟨b, hb, _⟩ := DataW.trod_bool (by kernel_rfl) h1
  obtain ⟨l, hid, h32⟩ := name_of_trod Tryz.underlying24 Tryz.underlying5 (by kernel_rfl) c2 h2
  refine ⟨⟨s.data.toList, b, ⟨l, h32⟩⟩, ?_, by rw [ba_size] at hsm; exact hsm⟩
  match cs, hl with
  | a :: d :: r, hl =>
    have e0 : a = .string s := by simpa using hs
    have e1 : d = .bool b := by simpa using hb
    have e2 : r = Bs l := by
      have : r.take 32 = Bs l := by simpa using hid
      rwa [List.take_of_length_le (by simp at hl; omega)] at this
    rw [e0, e1, e2]
    simp [encE, encI]
end
end Go.Proofs.YtpbnigpdpkfpaaaGreatDoor
namespace Go.Proofs.YtpbnigpdpkfpaaaGreatDoor
open Go.RowKit
section
variable {P : Program}
theorem run_loadS (w : World) (ty : TypeId) (ad : Addr) (cs : List Value) (hagg : (isAgg ty).run P w = .ok true w) (hi : (P.info? ty).map (·.size) = some cs.length)
    (h : ∀ j v, cs[j]? = some v → w.cell? (ad.add j) = some v) : (Instr.loadAt ty (.pointer (some ad))).run P w = .ok (.agg cs.toArray) w := by
  have hl : (loadCells ad cs.length).run P w = .ok cs.toArray w := run_loadCells_list (P := P) (w := w) ad cs h
  have : (loadVar ty ad).run P w = .ok (.agg cs.toArray) w := by
    cases hq : P.info? ty with
    | none => simp [hq] at hi
    | some i =>
      have hs : i.size = cs.length := by simpa [hq] using hi
      simp [loadVar, hagg, sizeOf, typeInfo, hq, hs, hl]
  simpa [Instr.loadAt, Instr.sureAddr] using this
variable {ops : Array Oper} {rest : List Oper} {o : Oper} {a : Act} {w : World} {C : World → Prop}
theorem wpl_loadS {Q : Exit → Act → World → Prop} (hgd : o.guard = none) (ty : TypeId) (x : Operand) (ho : o.op = .load ty x) (ad : Addr) (hx : a.eval x = .pointer (some ad)) (cs : List Value) (hagg : ∀ w, (isAgg ty).run P w = .ok true w) (hi : (P.info? ty).map (·.size) = some cs.length)
    (hc : ∀ j v, cs[j]? = some v → w.cell? (ad.add j) = some v) (h : wpList P ops Q rest (a.put o.dst (.agg cs.toArray)) w) : wpList P ops Q (o :: rest) a w := by
  refine wpList_plain hgd fun K hK => ?_
  unfold Oper.wp execOp
  simp only [ho, hx, Sem.run_bind, Sem.run_pure, Result.andThen_ok, run_loadS w ty ad cs (hagg w) hi hc]
  exact hK _ _ h
theorem wpQuiet_loadS {Q : Act → Prop} (hgd : Region.wanted o (yielded ops a.tmps) = true) (ty : TypeId) (x : Operand) (ho : o.op = .load ty x) (ad : Addr) (hx : a.eval x = .pointer (some ad)) (cs : List Value) (hagg : ∀ w, (isAgg ty).run P w = .ok true w) (hi : (P.info? ty).map (·.size) = some cs.length)
    (hc : ∀ w, C w → ∀ j v, cs[j]? = some v → w.cell? (ad.add j) = some v) (h : wpQuiet P ops C Q rest (a.put o.dst (.agg cs.toArray))) : wpQuiet P ops C Q (o :: rest) a := by
  refine wpQuiet_val hgd (.agg cs.toArray) (fun w hw => ?_) h
  unfold execOp
  simp only [ho, hx]
  simp [run_loadS w ty ad cs (hagg w) hi (hc w hw)]
theorem wpl_storeS {Q : Exit → Act → World → Prop} (hgd : o.guard = none) (ty : TypeId) (x y : Operand) (ho : o.op = .store ty x y) (g : Nat) (cs' : List Value) (hx : a.eval x = .pointer (some ⟨g, 0, none⟩)) (hy : a.eval y = .agg cs'.toArray) (t : TypeId) (cs : List Value) (hb : Blk w g t cs)
    (hi : (P.info? ty).map (·.size) = some cs'.length) (hl : cs.length = cs'.length) (h1 : ∀ v ∈ cs', v.oneCell' = true) (h : wpList P ops Q rest (a.put o.dst undef) (w.setRow g cs'.toArray)) : wpList P ops Q (o :: rest) a w :=
  wpList_store_row hgd ty x y ho g cs'.toArray hx hy t cs.toArray hb (by simpa using hi) (by simpa using hl) (by rw [Array.all_eq_true_iff_forall_mem]; intro v hv; exact h1 v (by simpa using hv)) h
end
/-- An entry of noughts. -/
def zeroE : List Value := encE ⟨[], false, default⟩
theorem infoE (e : Ent) : (Tryz.prog.info? 99).map (·.size) = some (encE e).length := by
  have h : (Tryz.prog.info? 99).map (·.size) = some 34 := by kernel_rfl
  rw [h]
  exact congrArg some (entE.len e).symm
/-- An entry laid in a block of its own. -/
theorem ent_laid (w : World) (e : Ent) : Below w.heap.size w ((w.alloc (.cells zeroE.toArray 99)).setRow w.heap.size (encE e).toArray) ∧
    Blk ((w.alloc (.cells zeroE.toArray 99)).setRow w.heap.size (encE e).toArray) w.heap.size 99 (encE e) :=
  ⟨below_setRow' ((Below.refl _ _).alloc (Nat.le_refl _) _) (Nat.le_refl _) _, (Blk.new w 99 zeroE).row _⟩
end Go.Proofs.YtpbnigpdpkfpaaaGreatDoor
namespace Go.Proofs.YtpbnigpdpkfpaaaGreatDoor
open Go.RowKit
theorem fold_put (l : List Value) : ∀ (off s : Nat) (cs : Array Value), off + s + l.length ≤ cs.size → (l.zipIdx s).foldl (fun cs (x : Value × Nat) => cs.setIfInBounds (off + x.2) x.1) cs = (cs.toList.take (off + s) ++ l ++ cs.toList.drop (off + s + l.length)).toArray := by
  induction l with
  | nil => intro off s cs _; simp
  | cons v r ih =>
    intro off s cs h
    simp only [List.length_cons] at h
    rw [List.zipIdx_cons, List.foldl_cons, ih off (s + 1) _ (by simp; omega)]
    have hs : off + s < cs.toList.length := by simp; omega
    simp only [Array.toList_setIfInBounds, List.length_cons]
    rw [show off + (s + 1) = off + s + 1 by omega, List.take_add_one, List.getElem?_set_self hs, List.take_set_of_le (Nat.le_refl _), List.drop_set_of_lt (by omega)]
    simp only [Option.toList_some, List.append_assoc, List.cons_append, List.nil_append]
    rw [show off + s + 1 + r.length = off + s + (r.length + 1) by omega]
theorem fill_one (place : Nat → Option (Nat × Nat)) (cells : Array Value) (i : Nat) (v : Value) (rest : List (Nat × Value)) (off : Nat) (cx : List Value) (hv : v.cells = cx.toArray) (hp : place i = some (off, cx.length)) (h : off + cx.length ≤ cells.size) :
    Instr.fill place cells ((i, v) :: rest) = Instr.fill place (cells.toList.take off ++ cx ++ cells.toList.drop (off + cx.length)).toArray rest := by
  rw [Instr.fill, hp]
  simp only [hv]
  rw [if_neg (by simp; omega)]
  congr 1
  rw [← Array.foldl_toList, Array.toList_zipIdx]
  have := fold_put cx off 0 cells (by omega)
  simpa using this
theorem built_fill {P : Program} {t : TypeId} {parts : List (Nat × Value)} (z : Array Value) (places : List (Nat × Nat)) (fs : Array Field) (it : TypeInfo) (hi : P.info? t = some it) (hu : P.underlying t = some (.struct fs)) (hz : it.zero.map Value.cells = some z)
    (hp : (fs.toList.mapM fun f => (P.info? f.type).map fun i => (f.offset, i.size)) = some places) : P.built t parts = Instr.fill (fun x => places.toArray[x]?) z parts := by
  unfold Program.built
  obtain ⟨v, hv, rfl⟩ := Option.map_eq_some_iff.1 hz
  simp only [hi, hu, hv, hp]
/-- What is asked of a struct's type, once. -/
def BuiltAs (P : Program) (t : TypeId) (z : List Value) (places : List (Nat × Nat)) : Prop := ∀ parts, P.built t parts = Instr.fill (fun x => places.toArray[x]?) z.toArray parts
theorem builtE : BuiltAs Tryz.prog 99 zeroE [(0, 1), (1, 1), (2, 32)] := fun parts => by
  obtain ⟨it, hi, hz⟩ : ∃ it, Tryz.prog.info? 99 = some it ∧ it.zero.map Value.cells = some zeroE.toArray := by
    have h : (Tryz.prog.info? 99).map (fun it => it.zero.map Value.cells) = some (some zeroE.toArray) := by kernel_rfl
    exact Option.map_eq_some_iff.1 h
  exact built_fill _ _ _ it hi Tryz.underlying99 hz (by kernel_rfl)
theorem infoId (x : Idt) : (Tryz.prog.info? 24).map (·.size) = some (encI x).length := by rw [Tryz.sizeId, encI_len]
theorem ba_data (s : ByteArray) : (⟨s.data.toList.toArray⟩ : ByteArray) = s := by cases s; simp
theorem built_ent (nm : ByteArray) (tr : Bool) (id : Idt) : Tryz.prog.built 99 [(0, .string nm), (1, .bool tr), (2, .agg (encI id).toArray)] = some (encE ⟨nm.data.toList, tr, id⟩).toArray := by
  have hl := encI_len id
  rw [builtE, fill_one _ _ 0 _ _ 0 [.string nm] rfl (by simp) (by simp [zeroE, encE, encI_len]), fill_one _ _ 1 _ _ 1 [.bool tr] rfl (by simp) (by simp [zeroE, encE, encI_len]), fill_one _ _ 2 _ _ 2 (encI id) rfl (by simp [hl]) (by simp [zeroE, encE, encI_len]), Instr.fill]
  simp [zeroE, encE, hl, encI_len]
theorem built_nameE (nm : ByteArray) (tr : Bool) : Tryz.prog.built 99 [(0, .string nm), (1, .bool tr)] = some (encE ⟨nm.data.toList, tr, default⟩).toArray := by
  rw [builtE, fill_one _ _ 0 _ _ 0 [.string nm] rfl (by simp) (by simp [zeroE, encE, encI_len]), fill_one _ _ 1 _ _ 1 [.bool tr] rfl (by simp) (by simp [zeroE, encE, encI_len]), Instr.fill]
  simp [zeroE, encE]
/-- A struct built, as one step of a region that draws. -/
theorem step_build {P : Program} {ops : Array Oper} {o : Oper} {a : Act} {w : World} {K : Act → World → Prop} {Q : Exit → Act → World → Prop} {E : Prop} (hgd : Region.wanted o (yielded ops a.tmps) = true) (t : TypeId) (parts : List (Nat × Operand)) (ho : o.op = .build t parts.toArray) (cs : Array Value) (hb : P.built t (parts.map fun (i, x) => (i, a.eval x)) = some cs)
    (h : K (a.put o.dst (.agg cs)) w) : if Region.wanted o (yielded ops a.tmps) = true then Oper.wp P o a w K Q else E := by
  rw [if_pos hgd]
  have hb' : P.built t (parts.toArray.map fun (i, x) => (i, a.eval x)).toList = some cs := by rw [List.map_toArray]; exact hb
  refine wp_build t parts.toArray ho (by rw [hb']; rfl) ?_
  rw [hb']
  exact h
/-- A struct built, in the walk. -/
theorem wpl_buildP {P : Program} {ops : Array Oper} {rest : List Oper} {o : Oper} {a : Act} {Q : Exit → Act → World → Prop} {w : World} (hgd : o.guard = none) (t : TypeId) (parts : List (Nat × Operand)) (ho : o.op = .build t parts.toArray) (cs : List Value) (hb : P.built t (parts.map fun (i, x) => (i, a.eval x)) = some cs.toArray)
    (h : wpList P ops Q rest (a.put o.dst (.agg cs.toArray)) w) : wpList P ops Q (o :: rest) a w :=
  wpl_build hgd t parts.toArray ho cs (by rw [List.map_toArray]; exact hb) h
/-- A struct stored whole, as one step of a region that draws. -/
theorem step_storeS {P : Program} {ops : Array Oper} {o : Oper} {a : Act} {w : World} {K : Act → World → Prop} {Q : Exit → Act → World → Prop} {E : Prop} (hgd : Region.wanted o (yielded ops a.tmps) = true) (ty : TypeId) (x y : Operand) (ho : o.op = .store ty x y) (g : Nat) (cs' : List Value) (hx : a.eval x = .pointer (some ⟨g, 0, none⟩)) (hy : a.eval y = .agg cs'.toArray) (t : TypeId) (cs : List Value) (hb : Blk w g t cs)
    (hi : (P.info? ty).map (·.size) = some cs'.length) (hl : cs.length = cs'.length) (h1 : ∀ v ∈ cs', v.oneCell' = true) (h : K (a.put o.dst undef) (w.setRow g cs'.toArray)) : if Region.wanted o (yielded ops a.tmps) = true then Oper.wp P o a w K Q else E := by
  rw [if_pos hgd]
  exact wp_store_row ty x y ho g cs'.toArray hx hy t cs.toArray hb (by simpa using hi) (by simpa using hl) (by rw [Array.all_eq_true_iff_forall_mem]; intro v hv; exact h1 v (by simpa using hv)) h
/-- An array behind a slice's pointer: no memory is looked at. -/
theorem step_arrPtr {P : Program} {ops : Array Oper} {o : Oper} {a : Act} {w : World} {K : Act → World → Prop} {Q : Exit → Act → World → Prop} {E : Prop} (hgd : Region.wanted o (yielded ops a.tmps) = true) (t : TypeId) (x : Operand) (ho : o.op = .sliceToArrayPointer t x) (n : Nat) (e : TypeId) (ht : P.underlying t = some (.array n e)) (A : Option Addr) (m c : Nat) (hx : a.eval x = .slice A m c) (hn : n ≤ m)
    (h : K (a.put o.dst (.pointer A)) w) : if Region.wanted o (yielded ops a.tmps) = true then Oper.wp P o a w K Q else E := by
  rw [if_pos hgd]
  have hr : (Instr.arrayAt t (.slice A m c)).run P w = .ok (.pointer A) w := by
    have : ¬ m < n := by omega
    simp [Instr.arrayAt, run_underlying ht, this]
  unfold Oper.wp execOp
  simp only [ho, hx, Sem.run_bind, Sem.run_pure, Result.andThen_ok, hr]
  exact h
/-- A conversion that makes memory, as one step of a region that draws. -/
theorem step_convw {P : Program} {ops : Array Oper} {o : Oper} {a : Act} {w : World} {K : Act → World → Prop} {Q : Exit → Act → World → Prop} {E : Prop} (hgd : Region.wanted o (yielded ops a.tmps) = true) (t1 t2 : TypeId) (x : Operand) (ho : o.op = .convert t1 t2 x) (v : Value) (w1 : World) (h0 : (convert t1 t2 (a.eval x)).run P w = .ok v w1)
    (h : K (a.put o.dst v) w1) : if Region.wanted o (yielded ops a.tmps) = true then Oper.wp P o a w K Q else E := by
  rw [if_pos hgd]
  unfold Oper.wp execOp
  simp only [ho, Sem.run_bind, Sem.run_pure, Result.andThen_ok, h0]
  exact h
/-- A name read, as one step of a region that draws. -/
theorem step_loadI {P : Program} {ops : Array Oper} {o : Oper} {a : Act} {w : World} {K : Act → World → Prop} {Q : Exit → Act → World → Prop} {E : Prop} (hgd : Region.wanted o (yielded ops a.tmps) = true) (ty : TypeId) (x : Operand) (ho : o.op = .load ty x) (ad : Addr) (hx : a.eval x = .pointer (some ad)) (cs : List Value)
    (hagg : (isAgg ty).run P w = .ok true w) (hi : (P.info? ty).map (·.size) = some cs.length) (hc : ∀ j v, cs[j]? = some v → w.cell? (ad.add j) = some v) (h : K (a.put o.dst (.agg cs.toArray)) w) :
    if Region.wanted o (yielded ops a.tmps) = true then Oper.wp P o a w K Q else E := by
  rw [if_pos hgd]
  unfold Oper.wp execOp
  simp only [ho, hx, Sem.run_bind, Sem.run_pure, Result.andThen_ok, run_loadS w ty ad cs hagg hi hc]
  exact h
theorem res_rowS3 {P : Program} {fn : Func} {p q r : Tmp} {ty : TypeId} (h : fn.results = #[.cell p ty, .tmp q, .tmp r]) (tmps : Array Value) (w : World) (g : Nat) (t : TypeId) (cs : List Value) (d : TypeDesc)
    (hp : tmps.getD p undef = .pointer (some ⟨g, 0, none⟩)) (hg : Blk w g t cs) (hu : P.underlying ty = some d) (hd : (match d with | .struct _ | .array _ _ => true | _ => false) = true) (hi : (P.info? ty).map (·.size) = some cs.length) :
    (results fn tmps).run P w = .ok (.tuple #[.agg cs.toArray, tmps.getD q undef, tmps.getD r undef]) w := by
  have hp' : tmps[p]?.getD undef = .pointer (some ⟨g, 0, none⟩) := by simpa using hp
  simp [results, h, hp', asAddr, run_loadVar_row w g t ty cs.toArray (0, 0) _ hg hu hd (by simpa using hi)]
end Go.Proofs.YtpbnigpdpkfpaaaGreatDoor
namespace Go.Proofs.YtpbnigpdpkfpaaaGreatDoor
open Go.RowKit
namespace Enc
variable {α : Type} (E : Enc α)
theorem fill_rows (l : List α) : ∀ (s : Nat) (done rest : List Value), done.length = s * E.k → rest.length = l.length * E.k →
    Instr.fill (fun i => some (i * E.k, E.k)) (done ++ rest).toArray ((l.zipIdx s).map fun x => (x.2, Value.agg (E.enc x.1).toArray)) = some (done ++ E.row l).toArray := by
  induction l with
  | nil =>
    intro s done rest _ h
    have : rest = [] := List.eq_nil_of_length_eq_zero (by simpa using h)
    subst this
    rfl
  | cons x r ih =>
    intro s done rest h1 h2
    have hk := E.len x
    rw [List.length_cons, Nat.succ_mul] at h2
    rw [List.zipIdx_cons, List.map_cons, fill_one _ _ s _ _ (s * E.k) (E.enc x) rfl (by rw [hk]) (by simp only [List.size_toArray, List.length_append]; omega)]
    have e : ((done ++ rest).toArray.toList.take (s * E.k) ++ E.enc x ++ (done ++ rest).toArray.toList.drop (s * E.k + (E.enc x).length)) = (done ++ E.enc x) ++ rest.drop E.k := by
      rw [List.toList_toArray, List.take_append_of_le_length (by omega), List.take_of_length_le (by omega), List.drop_append, List.drop_of_length_le (by omega), hk]
      rw [show s * E.k + E.k - done.length = E.k by omega]
      rfl
    rw [e, ih (s + 1) _ _ (by rw [List.length_append, hk, Nat.succ_mul]; omega) (by rw [List.length_drop]; omega)]
    simp [row, List.append_assoc]
end Enc
section
variable {P : Program} {ops : Array Oper} {rest : List Oper} {o : Oper} {a : Act} {w : World} {α : Type}
theorem wp_buildE (E : Enc α) {K : Act → World → Prop} {Q : Exit → Act → World → Prop} (t e : TypeId) (len : Nat) (parts : List (Nat × Operand)) (ho : o.op = .buildSlice t len parts.toArray) (l : List α) (hl : l.length = len)
    (hp : (parts.map fun (i, x) => (i, a.eval x)) = (l.zipIdx 0).map fun x => (x.2, Value.agg (E.enc x.1).toArray)) (z : Value) (bytes : Nat) (hu : P.underlying t = some (.slice e)) (hinfo : (P.info? e).map (fun i => (i.zero, i.size, i.bytes)) = some (some z, E.k, bytes)) (hs : len * E.k ≤ 16777216) (h0 : 0 < len)
    (h : K (a.put o.dst (.slice (some ⟨w.heap.size, 0, none⟩) len len)) (w.alloc (.cells (E.row l).toArray e))) : o.wp P a w K Q := by
  obtain ⟨ie, hi, hzz⟩ := Option.map_eq_some_iff.1 hinfo
  simp only [Prod.mk.injEq] at hzz
  obtain ⟨hz, hsz, _⟩ := hzz
  have hpos := E.pos
  have hm : 0 < len * E.k := Nat.mul_pos h0 hpos
  refine wp_buildSlice t e len parts.toArray ho (E.row l).toArray ie z hu hi hz (by rw [hsz]; omega) (by rw [hsz]; omega) ?_ h
  have hq : (parts.toArray.map fun (i, x) => (i, a.eval x)).toList = parts.map fun (i, x) => (i, a.eval x) := by simp
  rw [hq, hsz, hp]
  have := E.fill_rows l 0 [] ((Array.range (len * E.k)).map (z.cells[· % z.cells.size]!)).toList (by simp) (by simp [hl])
  simp only [List.nil_append, Array.toArray_toList] at this
  exact this
theorem wpl_buildE (E : Enc α) {Q : Exit → Act → World → Prop} (hg : o.guard = none) (t e : TypeId) (len : Nat) (parts : List (Nat × Operand)) (ho : o.op = .buildSlice t len parts.toArray) (l : List α) (hl : l.length = len)
    (hp : (parts.map fun (i, x) => (i, a.eval x)) = (l.zipIdx 0).map fun x => (x.2, Value.agg (E.enc x.1).toArray)) (z : Value) (bytes : Nat) (hu : P.underlying t = some (.slice e)) (hinfo : (P.info? e).map (fun i => (i.zero, i.size, i.bytes)) = some (some z, E.k, bytes)) (hs : len * E.k ≤ 16777216) (h0 : 0 < len)
    (h : wpList P ops Q rest (a.put o.dst (.slice (some ⟨w.heap.size, 0, none⟩) len len)) (w.alloc (.cells (E.row l).toArray e))) : wpList P ops Q (o :: rest) a w :=
  wpList_plain hg fun _ hK => wp_buildE E t e len parts ho l hl hp z bytes hu hinfo hs h0 (hK _ _ h)
end
theorem row_src {α : Type} (E : Enc α) (w : World) (t : TypeId) (l : List α) : Src (w.alloc (.cells (E.row l).toArray t)) E.k (some ⟨w.heap.size, 0, none⟩) l.length (E.row l) :=
  ⟨E.row_len l, fun _ => ⟨_, rfl, fun j u hu => by
    rw [addr_row _ rfl, Nat.zero_add]
    exact (Blk.new w t _).cell j u hu⟩, E.row_one l⟩
/-- A row that is just built is the call's own. -/
theorem row_new {α : Type} (E : Enc α) (w : World) (base : Nat) (t : TypeId) (l : List α) (hb : base ≤ w.heap.size) (hm : l.length ≤ maxLen) : RowQ (w.alloc (.cells (E.row l).toArray t)) base t E.k (.slice (some ⟨w.heap.size, 0, none⟩) l.length l.length) l.length (E.row l) :=
  ⟨E.row_len l, .inr ⟨w.heap.size, 0, l.length, (E.row l).toArray, rfl, hb, heap_alloc_new w _, Nat.le_refl _, hm, by simp [E.row_len], by simp [← E.row_len]⟩⟩
end Go.Proofs.YtpbnigpdpkfpaaaGreatDoor
namespace Go.Proofs.YtpbnigpdpkfpaaaGreatDoor
open Go.RowKit
theorem nlet_pred (w : World) : PredAt Tryz.prog 172 #[] (fun c : UInt8 => Value.int .u8 (ub c)) (fun c => !letterB c) w := fun W c _ =>
  (nlet_any W c).mono fun _ _ ⟨he, hw⟩ => ⟨he, 0, by rw [hw]; rfl⟩
theorem nameSearch (w : World) (b n c : Nat) (l : List UInt8) (hs : Src w 1 (some ⟨b, 0, none⟩) n (Bs l)) (hn : n ≤ 9223372036854775807) :
    Calls Tryz.prog 171 #[.slice (some ⟨b, 0, none⟩) n c, .func (.func 172) #[] #[]] w fun e w' => e = .returned (.bool (!l.all letterB)) ∧ ∃ q, w' = w.drewN q := by
  have hl : l.length = n := by have := hs.1; simpa using this
  have := AnyE.slices_ContainsFunc Tryz.hasFuncB (fun c : UInt8 => Value.int .u8 (ub c)) (fun c => !letterB c) 172 #[] (enters_of Tryz.func172 (by kernel_rfl) rfl) b 0 n c l w (nlet_pred w) (by omega) (by omega) (fun j hj => by
    obtain ⟨ad, ha, hx⟩ := hs.2.1 (by omega)
    obtain rfl := Option.some.inj ha
    have h1 := hx j _ (Bs_at l j hj)
    rw [addr_row _ rfl] at h1
    rw [h1, getElem!_pos l j hj]
    simp [gb, List.getD_eq_getElem?_getD, hj])
  subst hl
  rw [nameAny] at this
  exact this
set_option maxRecDepth 20000 in
set_option maxHeartbeats 1600000 in
theorem treeName_any (W : World) (s : ByteArray) (l : List UInt8) (hl : l = s.data.toList) (hs : s.size ≤ 9223372036854775807) : Calls Tryz.prog 122 #[.string s] W fun e W' => e = .returned (.bool (nameB l)) ∧ Below W.heap.size W W' := by
  rw [nameB_eq]
  have hst : s.toList = l := by rw [ByteArray.toList_eq, hl]
  have hll : l.length = s.size := by rw [hl, ← ba_size]
  have s9 : (s.size : Int) ≤ 9223372036854775807 := by omega
  obtain ⟨a, ha⟩ : ∃ a : Bool, a = (l == [46]) := ⟨_, rfl⟩
  obtain ⟨b, hb⟩ : ∃ b : Bool, b = (l == [46, 46]) := ⟨_, rfl⟩
  have e1 : (s.toList == [46]) = a := by rw [hst, ha]
  have e2 : (s.toList == [46, 46]) = b := by rw [hst, hb]
  rw [← ha, ← hb, hll]
  obtain ⟨c2, w2, hcv, hsrc, hbw, _, _⟩ := conv_bytes W s
  rw [← hl] at hsrc
  have hc := nameSearch w2 _ _ c2 l hsrc hs
  obtain ⟨q, hq⟩ : ∃ q, q = l.all letterB := ⟨_, rfl⟩
  rw [← hq] at hc ⊢
  have CV := Lib.hid hcv
  have HC := Lib.hid hc
  have HB := Lib.hid hbw
  have E1 := Lib.hid e1
  have E2 := Lib.hid e2
  clear hl hst hll hs ha hb e1 e2 hcv hsrc hbw hc hq
  go_enter Tryz.func122, Tryz.ntmps122
  go_upto_region 2 with (first
    | (refine wpl_convw rfl 9 53 _ rfl _ rfl _ w2 CV.out ?_)
    | (go_at_call 171; refine HC.out.mono ?_; rintro e w' ⟨rfl, q', rfl⟩))
  have L := Lib.hid (below_drewN' HB.out q')
  generalize w2.drewN q' = w3 at L ⊢
  clear HC CV HB
  have e1 := E1.out
  have e2 := E2.out
  cases q
  all_goals
    go_wp2
    all_goals
      go_ret
      refine ⟨?_, L.out⟩
      show Ending.returned (Value.bool _) = Ending.returned (Value.bool _)
      refine congrArg (fun b => Ending.returned (Value.bool b)) ?_
      unfold nameE
      rw [Bool.eq_iff_iff]
      simp only [Bool.true_and, Bool.false_and, Bool.and_eq_true, decide_eq_true_eq, Bool.not_eq_true']
      first | done | omega | (cases a <;> cases b <;> simp_all <;> omega)
end Go.Proofs.YtpbnigpdpkfpaaaGreatDoor
namespace Go.Proofs.YtpbnigpdpkfpaaaGreatDoor
open Go.RowKit
/-- Rows of entries with names that are not too long for memory. -/
def NamesFit (l : List Ent) : Prop := ∀ e ∈ l, e.nm.length ≤ maxLen
set_option maxRecDepth 20000 in
set_option maxHeartbeats 3200000 in
theorem treeMay_any (W : World) (A : Option Addr) (n c : Nat) (l : List Ent) (hs : Src W entE.k A n (entE.row l)) (hn : n ≤ 1099511627776) (hf : NamesFit l) :
    Calls Tryz.prog 71 #[.slice A n c] W fun e W' => e = .returned (.bool (mayT l)) ∧ Below W.heap.size W W' := by
  have LN := Lib.hid (entE.src_len hs)
  have S0 := Lib.hid hs
  have HF := Lib.hid hf
  have n9 : (n : Int) ≤ 1099511627776 := by omega
  have HN := Lib.hid hn
  clear hs hf hn
  go_enter Tryz.func71, Tryz.ntmps71
  go_wp2
  go_loopw [7] (fun i wr => ∃ k : Nat, k ≤ n ∧ i = .int .i64 k ∧ Below W.heap.size W wr ∧ ∀ j, j < k → entOk l j = true) (fun i _ => n - (intOf i).toNat)
  case atStart => exact ⟨0, by omega, rfl, Below.refl _ _, fun j h => by omega⟩
  case round =>
    obtain ⟨k, hk, rfl, hb, hall⟩ := hrel
    by_cases hlt : k < n
    · have hln := LN.out
      have k1 : (k : Int) < (n : Int) := by omega
      have BR := Lib.hid hb
      have SR := Lib.hid (entE.src_below S0.out hb)
      obtain ⟨_, b, o, rfl, hc⟩ := entE.src_at SR.out (by omega)
      have c1 : ∀ j v, (encE l[k]!)[j]? = some v → wr.cell? ((⟨b, o + k * 34, none⟩ : Addr).add j) = some v := entE.at_elem (hc k hlt)
      obtain ⟨e, he⟩ : ∃ e, e = l[k]! := ⟨_, rfl⟩
      rw [← he] at c1
      have HE := Lib.hid he
      have i1 := infoE e
      have I1 := Lib.hid i1
      have C1 := Lib.hid c1
      clear hc hb c1 i1 he
      go_upto_region 4 with (first
        | (refine wpl_loadS rfl 99 (.tmp 10) rfl ⟨b, o + k * 34, none⟩ rfl (encE e) Tryz.isAgg99 I1.out C1.out ?_)
        | (refine wpl_storeS rfl 99 (.tmp 4) _ rfl wr.heap.size (encE e) rfl rfl 99 _ (Blk.new wr _ _) I1.out (by rw [show (encE e).length = 34 from entE.len _]; rfl) (entE.one _) ?_))
      generalize hw1 : World.setRow _ _ _ = w1
      have E1 : Hid (Below wr.heap.size wr w1) := Lib.hid (by rw [← hw1]; exact (ent_laid wr e).1)
      have K1 : Hid (Blk w1 wr.heap.size 99 (encE e)) := Lib.hid (by rw [← hw1]; exact (ent_laid wr e).2)
      clear hw1
      have hnm : e.nm.length ≤ maxLen := by rw [HE.out]; exact HF.out _ (by rw [getElem!_pos l k (by omega)]; exact List.getElem_mem _)
      have hok : entOk l k = (nameB e.nm && (decide (k = 0) || Op.bytesLess l[k - 1]!.nm e.nm)) := by unfold entOk; rw [← HE.out]
      obtain ⟨sn, hsn⟩ : ∃ sn : ByteArray, sn = ⟨e.nm.toArray⟩ := ⟨_, rfl⟩
      obtain ⟨sp, hsp⟩ : ∃ sp : ByteArray, sp = ⟨l[k - 1]!.nm.toArray⟩ := ⟨_, rfl⟩
      have e1 : sn.toList = e.nm := by rw [hsn, ByteArray.toList_eq]
      have e2 : sp.toList = l[k - 1]!.nm := by rw [hsp, ByteArray.toList_eq]
      have cN : ∀ w, Calls Tryz.prog 122 #[.string sn] w fun e' W' => e' = .returned (.bool (nameB e.nm)) ∧ Below w.heap.size w W' := fun w => treeName_any w sn e.nm (by rw [hsn]) (by rw [hsn, ba_size]; simpa [maxLen] using hnm)
      have kn : ∀ s : Ext w1, s.at_.cell? ⟨wr.heap.size, 0, none⟩ = some (.string sn) := fun s => by rw [hsn]; exact (K1.out.below s.below).cell 0 _ rfl
      have kp : 0 < k → ∀ s : Ext w1, s.at_.cell? ⟨b, o + (k - 1) * 34, none⟩ = some (.string sp) := fun h s => by
        obtain ⟨_, b3, o3, e3, ct3⟩ := entE.src_at (entE.src_below SR.out (E1.out.trans (s.below.mono E1.out.size))) (by omega)
        injection e3 with e3
        injection e3 with e4 e5 _
        subst e4; subst e5
        rw [hsp]
        have := ct3 (k - 1) (by omega) 0 (.string ⟨l[k - 1]!.nm.toArray⟩) rfl
        exact this
      have miss : entOk l k = false → mayT l = false := mayT_miss (by omega)
      have next : entOk l k = true → ∀ j, j < k + 1 → entOk l j = true := fun h j hj => by
        rcases Nat.lt_or_ge j k with h1 | h1
        · exact hall j h1
        · rw [show j = k by omega]; exact h
      have hle : k + 1 ≤ n := by omega
      have MISS := Lib.hid miss
      have NEXT := Lib.hid next
      have HLE := Lib.hid hle
      rw [← e1, ← e2] at hok
      have L1 := Lib.hid (BR.out.trans (E1.out.mono BR.out.size))
      obtain ⟨lt, hlt'⟩ : ∃ lt, lt = Op.bytesLess sp.toList sn.toList := ⟨_, rfl⟩
      rw [← hlt', e1] at hok
      have hlq := hlt'.symm
      generalize nameB e.nm = q at cN hok
      have CN := Lib.hid cN
      clear hnm hsn hsp e1 e2 cN miss next hall hle hlt'
      generalize wr.heap.size = g at kn ⊢
      have hemp := ext_nonempty w1
      by_cases h0 : k = 0
      · subst h0
        clear kp hlq
        cases q
        · have OK := Lib.hid (MISS.out hok)
          clear hok
          refine wp_region_ext (by kernel_rfl) (by kernel_rfl) ?_
          quiet_step (fail)
          repeat (go_big_quiet_step ((go_at_call 122; exact Ext.call (CN.out _))))
          refine wpQuiet_nil ?_
          rintro _ ⟨s9, rfl⟩
          go_wp2
          go_ret
          exact ⟨by rw [OK.out]; rfl, L1.out.trans (s9.below.mono L1.out.size)⟩
        · have OK := Lib.hid (NEXT.out hok)
          clear hok
          refine wp_region_ext (by kernel_rfl) (by kernel_rfl) ?_
          quiet_step (fail)
          repeat (go_big_quiet_step ((go_at_call 122; exact Ext.call (CN.out _))))
          refine wpQuiet_nil ?_
          rintro _ ⟨s9, rfl⟩
          go_wp2
          go_roundw
          case measure => simp [intOf]; have := HLE.out; omega
          case rel => exact ⟨1, HLE.out, by go_num, L1.out.trans (s9.below.mono L1.out.size), OK.out⟩
      · have kp' := kp (by omega)
        have hp1 : (0 : Int) < (k : Int) := by omega
        have kw : wrap64 ((k : Int) - 1) = ((k - 1 : Nat) : Int) := by unfold wrap64; omega
        have kn1 : 0 < k := by omega
        have kb : ((k - 1 : Nat) : Int) < (n : Int) := by omega
        rw [decide_eq_false h0, Bool.false_or] at hok
        clear kp h0
        cases q
        · have OK := Lib.hid (MISS.out hok)
          clear hok
          refine wp_region_ext (by kernel_rfl) (by kernel_rfl) ?_
          quiet_step (fail)
          repeat (go_big_quiet_step ((go_at_call 122; exact Ext.call (CN.out _))))
          refine wpQuiet_nil ?_
          rintro _ ⟨s9, rfl⟩
          go_wp2
          go_ret
          exact ⟨by rw [OK.out]; rfl, L1.out.trans (s9.below.mono L1.out.size)⟩
        · cases lt
          · have OK := Lib.hid (MISS.out hok)
            clear hok
            refine wp_region_ext (by kernel_rfl) (by kernel_rfl) ?_
            quiet_step (fail)
            repeat (go_big_quiet_step ((go_at_call 122; exact Ext.call (CN.out _))))
            refine wpQuiet_nil ?_
            rintro _ ⟨s9, rfl⟩
            go_wp2
            go_ret
            exact ⟨by rw [OK.out]; rfl, L1.out.trans (s9.below.mono L1.out.size)⟩
          · have OK := Lib.hid (NEXT.out hok)
            clear hok
            refine wp_region_ext (by kernel_rfl) (by kernel_rfl) ?_
            quiet_step (fail)
            repeat (go_big_quiet_step ((go_at_call 122; exact Ext.call (CN.out _))))
            refine wpQuiet_nil ?_
            rintro _ ⟨s9, rfl⟩
            go_wp2
            go_roundw
            case measure => simp [intOf]; have := HLE.out; omega
            case rel => exact ⟨k + 1, HLE.out, by go_num, L1.out.trans (s9.below.mono L1.out.size), OK.out⟩
    · have : k = n := by omega
      subst this
      have hm := mayT_all (es := l) (fun i hi => hall i (by have := LN.out; omega))
      rw [LN.out] at hm
      have HM := Lib.hid hm
      have BR := Lib.hid hb
      clear hall hm hb
      go_wp2
      go_ret
      refine ⟨?_, BR.out⟩
      rw [HM.out]
      show Ending.returned (Value.bool _) = Ending.returned (Value.bool _)
      refine congrArg (fun b => Ending.returned (Value.bool b)) ?_
      rw [Bool.eq_iff_iff]
      simp only [decide_eq_true_eq]
      omega
set_option maxRecDepth 20000 in
set_option maxHeartbeats 3200000 in
theorem refMayTree_any (W : World) (A : Option Addr) (n c : Nat) (l : List Ent) (hs : Src W entE.k A n (entE.row l)) (hn : n ≤ 1099511627776) (hf : NamesFit l) :
    Calls Tryz.prog 68 #[.slice A n c] W fun e W' => e = .returned (.bool (mayT l)) ∧ Below W.heap.size W W' := by
  have LN := Lib.hid (entE.src_len hs)
  have S0 := Lib.hid hs
  have HF := Lib.hid hf
  have n9 : (n : Int) ≤ 1099511627776 := by omega
  have HN := Lib.hid hn
  clear hs hf hn
  go_enter Tryz.func68, Tryz.ntmps68
  go_wp2
  go_loopw [3] (fun i wr => ∃ k : Nat, k ≤ n ∧ i = .int .i64 k ∧ Below W.heap.size W wr ∧ ∀ j, j < k → entOk l j = true) (fun i _ => n - (intOf i).toNat)
  case atStart => exact ⟨0, by omega, rfl, Below.refl _ _, fun j h => by omega⟩
  case round =>
    obtain ⟨k, hk, rfl, hb, hall⟩ := hrel
    by_cases hlt : k < n
    · have hln := LN.out
      have k1 : (k : Int) < (n : Int) := by omega
      have BR := Lib.hid hb
      have SR := Lib.hid (entE.src_below S0.out hb)
      obtain ⟨_, b, o, rfl, hc⟩ := entE.src_at SR.out (by omega)
      have c1 : ∀ j v, (encE l[k]!)[j]? = some v → wr.cell? ((⟨b, o + k * 34, none⟩ : Addr).add j) = some v := entE.at_elem (hc k hlt)
      obtain ⟨e, he⟩ : ∃ e, e = l[k]! := ⟨_, rfl⟩
      rw [← he] at c1
      have HE := Lib.hid he
      have C1 := Lib.hid c1
      clear hc hb c1 he
      go_upto_region 4 with fail
      have hnm : e.nm.length ≤ maxLen := by rw [HE.out]; exact HF.out _ (by rw [getElem!_pos l k (by omega)]; exact List.getElem_mem _)
      have hok : entOk l k = (nameB e.nm && (decide (k = 0) || Op.bytesLess l[k - 1]!.nm e.nm)) := by unfold entOk; rw [← HE.out]
      obtain ⟨sn, hsn⟩ : ∃ sn : ByteArray, sn = ⟨e.nm.toArray⟩ := ⟨_, rfl⟩
      obtain ⟨sp, hsp⟩ : ∃ sp : ByteArray, sp = ⟨l[k - 1]!.nm.toArray⟩ := ⟨_, rfl⟩
      have e1 : sn.toList = e.nm := by rw [hsn, ByteArray.toList_eq]
      have e2 : sp.toList = l[k - 1]!.nm := by rw [hsp, ByteArray.toList_eq]
      have cN : ∀ w, Calls Tryz.prog 127 #[.string sn] w fun e' W' => e' = .returned (.bool (nameB e.nm)) ∧ Below w.heap.size w W' := fun w => (refName_any w sn e.nm (by rw [hsn]) (by rw [hsn, ba_size]; simpa [maxLen] using hnm)).mono fun _ _ ⟨h1, h2⟩ => ⟨h1, by rw [h2]; exact Below.refl _ _⟩
      have kn : ∀ s : Ext wr, s.at_.cell? ⟨b, o + k * 34, none⟩ = some (.string sn) := fun s => by
        obtain ⟨_, b3, o3, e3, ct3⟩ := entE.src_at (entE.src_below SR.out s.below) (by omega)
        injection e3 with e3
        injection e3 with e4 e5 _
        subst e4; subst e5
        rw [hsn, HE.out]
        have := ct3 k hlt 0 (.string ⟨l[k]!.nm.toArray⟩) rfl
        exact this
      have kp : 0 < k → ∀ s : Ext wr, s.at_.cell? ⟨b, o + (k - 1) * 34, none⟩ = some (.string sp) := fun h s => by
        obtain ⟨_, b3, o3, e3, ct3⟩ := entE.src_at (entE.src_below SR.out s.below) (by omega)
        injection e3 with e3
        injection e3 with e4 e5 _
        subst e4; subst e5
        rw [hsp]
        have := ct3 (k - 1) (by omega) 0 (.string ⟨l[k - 1]!.nm.toArray⟩) rfl
        exact this
      have miss : entOk l k = false → mayT l = false := mayT_miss (by omega)
      have next : entOk l k = true → ∀ j, j < k + 1 → entOk l j = true := fun h j hj => by
        rcases Nat.lt_or_ge j k with h1 | h1
        · exact hall j h1
        · rw [show j = k by omega]; exact h
      have hle : k + 1 ≤ n := by omega
      have MISS := Lib.hid miss
      have NEXT := Lib.hid next
      have HLE := Lib.hid hle
      rw [← e1, ← e2] at hok
      have L1 := BR
      obtain ⟨lt, hlt'⟩ : ∃ lt, lt = Op.bytesLess sp.toList sn.toList := ⟨_, rfl⟩
      rw [← hlt', e1] at hok
      have hlq := hlt'.symm
      generalize nameB e.nm = q at cN hok
      have CN := Lib.hid cN
      clear hnm hsn hsp e1 e2 cN miss next hall hle hlt'
      have hemp := ext_nonempty wr
      by_cases h0 : k = 0
      · subst h0
        have kn' : ∀ s : Ext wr, s.at_.cell? ⟨b, o, none⟩ = some (.string sn) := kn
        clear kp hlq kn
        cases q
        · have OK := Lib.hid (MISS.out hok)
          clear hok
          refine wp_region_ext (by kernel_rfl) (by kernel_rfl) ?_
          quiet_step (fail)
          repeat (go_big_quiet_step ((go_at_call 127; exact Ext.call (CN.out _))))
          refine wpQuiet_nil ?_
          rintro _ ⟨s9, rfl⟩
          go_wp2
          go_ret
          exact ⟨by rw [OK.out]; rfl, L1.out.trans (s9.below.mono L1.out.size)⟩
        · have OK := Lib.hid (NEXT.out hok)
          clear hok
          refine wp_region_ext (by kernel_rfl) (by kernel_rfl) ?_
          quiet_step (fail)
          repeat (go_big_quiet_step ((go_at_call 127; exact Ext.call (CN.out _))))
          refine wpQuiet_nil ?_
          rintro _ ⟨s9, rfl⟩
          go_wp2
          go_roundw
          case measure => simp [intOf]; have := HLE.out; omega
          case rel => exact ⟨1, HLE.out, by go_num, L1.out.trans (s9.below.mono L1.out.size), OK.out⟩
      · have kp' := kp (by omega)
        have hp1 : (0 : Int) < (k : Int) := by omega
        have kw : wrap64 ((k : Int) - 1) = ((k - 1 : Nat) : Int) := by unfold wrap64; omega
        have kn1 : 0 < k := by omega
        have kb : ((k - 1 : Nat) : Int) < (n : Int) := by omega
        rw [decide_eq_false h0, Bool.false_or] at hok
        clear kp h0
        cases q
        · have OK := Lib.hid (MISS.out hok)
          clear hok
          refine wp_region_ext (by kernel_rfl) (by kernel_rfl) ?_
          quiet_step (fail)
          repeat (go_big_quiet_step ((go_at_call 127; exact Ext.call (CN.out _))))
          refine wpQuiet_nil ?_
          rintro _ ⟨s9, rfl⟩
          go_wp2
          go_ret
          exact ⟨by rw [OK.out]; rfl, L1.out.trans (s9.below.mono L1.out.size)⟩
        · cases lt
          · have OK := Lib.hid (MISS.out hok)
            clear hok
            refine wp_region_ext (by kernel_rfl) (by kernel_rfl) ?_
            quiet_step (fail)
            repeat (go_big_quiet_step ((go_at_call 127; exact Ext.call (CN.out _))))
            refine wpQuiet_nil ?_
            rintro _ ⟨s9, rfl⟩
            go_wp2
            go_ret
            exact ⟨by rw [OK.out]; rfl, L1.out.trans (s9.below.mono L1.out.size)⟩
          · have OK := Lib.hid (NEXT.out hok)
            clear hok
            refine wp_region_ext (by kernel_rfl) (by kernel_rfl) ?_
            quiet_step (fail)
            repeat (go_big_quiet_step ((go_at_call 127; exact Ext.call (CN.out _))))
            refine wpQuiet_nil ?_
            rintro _ ⟨s9, rfl⟩
            go_wp2
            go_roundw
            case measure => simp [intOf]; have := HLE.out; omega
            case rel => exact ⟨k + 1, HLE.out, by go_num, L1.out.trans (s9.below.mono L1.out.size), OK.out⟩
    · have : k = n := by omega
      subst this
      have hm := mayT_all (es := l) (fun i hi => hall i (by have := LN.out; omega))
      rw [LN.out] at hm
      have HM := Lib.hid hm
      have BR := Lib.hid hb
      clear hall hm hb
      go_wp2
      go_ret
      refine ⟨?_, BR.out⟩
      rw [HM.out]
      show Ending.returned (Value.bool _) = Ending.returned (Value.bool _)
      refine congrArg (fun b => Ending.returned (Value.bool b)) ?_
      rw [Bool.eq_iff_iff]
      simp only [decide_eq_true_eq]
      omega
end Go.Proofs.YtpbnigpdpkfpaaaGreatDoor
namespace Go.Proofs.YtpbnigpdpkfpaaaGreatDoor
open Go.RowKit
set_option maxRecDepth 20000 in
set_option maxHeartbeats 800000 in
theorem findOne_any (W : World) (e : Ent) (p : Nat) (s : ByteArray) (l : List UInt8) (hl : l = s.data.toList) (hp : Blk W p 9 [.string s]) :
    Calls Tryz.prog 119 #[.agg (encE e).toArray, .pointer (some ⟨p, 0, none⟩)] W fun r W' => r = .returned (.bool (decide (e.nm = l))) ∧ Below W.heap.size W W' := by
  obtain ⟨w1, hw1⟩ : ∃ w1, w1 = W.alloc (.cells (encE e).toArray 99) := ⟨_, rfl⟩
  have hb := (Below.refl W.heap.size W).alloc (Nat.le_refl _) (.cells (encE e).toArray 99)
  have hB := Blk.new W 99 (encE e)
  rw [← hw1] at hb hB
  obtain ⟨sn, hsn⟩ : ∃ sn : ByteArray, sn = ⟨e.nm.toArray⟩ := ⟨_, rfl⟩
  have c1 : w1.cell? ⟨W.heap.size, 0, none⟩ = some (.string sn) := by rw [hsn]; exact hB.cell 0 _ rfl
  have c2 : w1.cell? ⟨p, 0, none⟩ = some (.string s) := (hp.below hb).cell 0 _ rfl
  obtain ⟨q, hq⟩ : ∃ q, q = (sn.toList == s.toList) := ⟨_, rfl⟩
  have hd : decide (e.nm = l) = q := by
    rw [hq, hsn, hl, ByteArray.toList_eq, ByteArray.toList_eq]
    by_cases h : e.nm = s.data.toList
    · rw [decide_eq_true h]; simp [h]
    · rw [decide_eq_false h]; symm; simpa using h
  rw [hd]
  have hq' := hq.symm
  have HB := Lib.hid hb
  clear hq hd hsn hB hb hp hl
  go_enter Tryz.func119, Tryz.ntmps119
  go_upto_region 1 with fail
  rw [← hw1]
  clear hw1
  go_wp2
  go_ret
  exact ⟨rfl, HB.out⟩
theorem find_pred (w : World) (p : Nat) (s : ByteArray) (l : List UInt8) (hl : l = s.data.toList) (hp : Blk w p 9 [.string s]) :
    PredBelow Tryz.prog 119 #[.pointer (some ⟨p, 0, none⟩)] (fun e => .agg (encE e).toArray) (fun e => decide (e.nm = l)) w := fun W e hb =>
  (findOne_any W e p s l hl (hp.below hb)).mono fun _ _ ⟨h1, h2⟩ => ⟨h1, hb.trans (h2.mono hb.size)⟩
/-- Where the name stands: the search's answer. -/
theorem findAt_any (w : World) (p : Nat) (s : ByteArray) (l : List UInt8) (hl : l = s.data.toList) (hp : Blk w p 9 [.string s]) (A : Option Addr) (n c : Nat) (es : List Ent) (hs : Src w entE.k A n (entE.row es)) (hn : n ≤ 1099511627776) (h0 : 0 < n) :
    Calls Tryz.prog 118 #[.slice A n c, .func (.func 119) #[] #[.pointer (some ⟨p, 0, none⟩)]] w fun r w' =>
      r = .returned (.int .i64 (Lib.idxBy (fun _ e => decide (e.nm = l)) es default)) ∧ Below w.heap.size w w' := by
  obtain ⟨hl2, b, o, rfl, hc⟩ := entE.src_at hs h0
  have hb : b < w.heap.size := by
    have h1 := hc 0 h0 0 _ (List.getElem?_eq_getElem (by rw [entE.len]; decide))
    exact World.block_lt_of_cell? w _ h1
  have := AnyQ.slices_IndexFunc Tryz.indexFuncE 34 Tryz.isAgg99 Tryz.sizeOf99 encE entE.len (fun e => decide (e.nm = l)) 119 #[.pointer (some ⟨p, 0, none⟩)] (enters_of Tryz.func119 (by kernel_rfl) rfl) b o n c es w (find_pred w p s l hl hp) (by omega) (by omega) hb (fun j hj => hc j (by omega))
  subst hl2
  rw [List.take_length] at this
  exact this
theorem res_rowS2 {P : Program} {fn : Func} {p q : Tmp} {ty : TypeId} (h : fn.results = #[.cell p ty, .tmp q]) (tmps : Array Value) (w : World) (g : Nat) (t : TypeId) (cs : List Value) (d : TypeDesc)
    (hp : tmps.getD p undef = .pointer (some ⟨g, 0, none⟩)) (hg : Blk w g t cs) (hu : P.underlying ty = some d) (hd : (match d with | .struct _ | .array _ _ => true | _ => false) = true) (hi : (P.info? ty).map (·.size) = some cs.length) :
    (results fn tmps).run P w = .ok (.tuple #[.agg cs.toArray, tmps.getD q undef]) w := by
  have hp' : tmps[p]?.getD undef = .pointer (some ⟨g, 0, none⟩) := by simpa using hp
  simp [results, h, hp', asAddr, run_loadVar_row w g t ty cs.toArray (0, 0) _ hg hu hd (by simpa using hi)]
/-- The entry of a name; an entry of noughts. -/
def findE (es : List Ent) (l : List UInt8) : Ent × Bool := match es.find? (fun e => decide (e.nm = l)) with
  | some e => (e, true)
  | none => (⟨[], false, default⟩, false)
theorem findE_hit (l : List UInt8) : ∀ (es : List Ent) (k : Nat), k < es.length → es[k]!.nm = l → (∀ j, j < k → es[j]!.nm ≠ l) → findE es l = (es[k]!, true)
  | [], k, h, _, _ => by simp at h
  | e :: r, 0, _, h, _ => by
    have h' : e.nm = l := h
    unfold findE
    rw [List.find?_cons_of_pos (by simpa using h')]
    rfl
  | e :: r, k + 1, hk, h, hn => by
    have h' : e.nm ≠ l := hn 0 (by omega)
    have := findE_hit l r k (by simpa using hk) (by simpa using h) (fun j hj => by simpa using hn (j + 1) (by omega))
    unfold findE at this ⊢
    rw [List.find?_cons_of_neg (by simpa using h'), this]
    simp
theorem findE_miss (l : List UInt8) (es : List Ent) (h : ∀ j, j < es.length → es[j]!.nm ≠ l) : findE es l = (⟨[], false, default⟩, false) := by
  unfold findE
  have : es.find? (fun e => decide (e.nm = l)) = none := by
    rw [List.find?_eq_none]
    intro e he
    obtain ⟨j, hj, rfl⟩ := List.getElem_of_mem he
    have := h j hj
    rw [getElem!_pos es j hj] at this
    simpa using this
  rw [this]
theorem first_at (p : Nat → Prop) : ∀ n, (∃ k, k < n ∧ p k) → ∃ k, k < n ∧ p k ∧ ∀ j, j < k → ¬ p j := by
  intro n
  induction n with
  | zero => rintro ⟨k, h, _⟩; omega
  | succ n ih =>
    intro h
    by_cases h1 : ∃ k, k < n ∧ p k
    · obtain ⟨k, a, b, c⟩ := ih h1
      exact ⟨k, by omega, b, c⟩
    · obtain ⟨k, a, b⟩ := h
      have : k = n := by
        rcases Nat.lt_or_ge k n with h2 | h2
        · exact absurd ⟨k, h2, b⟩ h1
        · omega
      subst this
      exact ⟨k, a, b, fun j hj hp => h1 ⟨j, hj, hp⟩⟩
/-- Where it stands, or nowhere. -/
theorem find_cases (es : List Ent) (l : List UInt8) : (∃ k, k < es.length ∧ es[k]!.nm = l ∧ Lib.idxBy (fun _ e => decide (e.nm = l)) es default = (k : Int) ∧ findE es l = (es[k]!, true)) ∨
    (Lib.idxBy (fun _ e => decide (e.nm = l)) es (default : Ent) = -1 ∧ findE es l = (⟨[], false, default⟩, false)) := by
  by_cases h : ∃ k, k < es.length ∧ es[k]!.nm = l
  · obtain ⟨k, h1, h2, h4⟩ := first_at (fun k => es[k]!.nm = l) es.length h
    refine .inl ⟨k, h1, h2, ?_, findE_hit l es k h1 h2 h4⟩
    have := Lib.idxBy_hit (fun _ e => decide (e.nm = l)) es es.length k (default : Ent) h1 (Nat.le_refl _) (decide_eq_true h2) (fun j hj => decide_eq_false (h4 j hj))
    rwa [List.take_length] at this
  · have h4 : ∀ j, j < es.length → es[j]!.nm ≠ l := fun j hj e => h ⟨j, hj, e⟩
    refine .inr ⟨?_, findE_miss l es h4⟩
    have := Lib.idxBy_miss (fun _ e => decide (e.nm = l)) es es.length (default : Ent) (fun j hj => decide_eq_false (h4 j hj))
    rwa [List.take_length] at this
theorem findAt_none (w : World) (A : Option Addr) (c : Nat) (fv : Value) : Calls Tryz.prog 118 #[.slice A 0 c, fv] w fun r w' => r = .returned (.int .i64 (-1)) ∧ Below w.heap.size w w' := by
  go_enter Tryz.func118, Tryz.ntmps118
  go_wp2
  go_loopw [8] (fun i wr => i = .int .i64 0 ∧ Below w.heap.size w wr) (fun _ _ => 0)
  case atStart => exact ⟨rfl, Below.refl _ _⟩
  case round =>
    obtain ⟨rfl, hb⟩ := hrel
    go_wp2
    go_ret
    exact ⟨rfl, hb⟩
theorem findAt_all (w : World) (p : Nat) (s : ByteArray) (l : List UInt8) (hl : l = s.data.toList) (hp : Blk w p 9 [.string s]) (A : Option Addr) (n c : Nat) (es : List Ent) (hs : Src w entE.k A n (entE.row es)) (hn : n ≤ 1099511627776) :
    Calls Tryz.prog 118 #[.slice A n c, .func (.func 119) #[] #[.pointer (some ⟨p, 0, none⟩)]] w fun r w' =>
      r = .returned (.int .i64 (Lib.idxBy (fun _ e => decide (e.nm = l)) es default)) ∧ Below w.heap.size w w' := by
  rcases Nat.eq_zero_or_pos n with h0 | h0
  · subst h0
    have he : es = [] := List.eq_nil_of_length_eq_zero (entE.src_len hs)
    subst he
    exact findAt_none w A c _
  · exact findAt_any w p s l hl hp A n c es hs hn h0
set_option maxRecDepth 20000 in
set_option maxHeartbeats 1600000 in
theorem treeFind_any (W : World) (A : Option Addr) (n c : Nat) (es : List Ent) (hs : Src W entE.k A n (entE.row es)) (hn : n ≤ 1099511627776) (s : ByteArray) (l : List UInt8) (hl : l = s.data.toList) :
    Calls Tryz.prog 62 #[.slice A n c, .string s] W fun r W' => r = .returned (.tuple #[.agg (encE (findE es l).1).toArray, .bool (findE es l).2]) ∧ Below W.heap.size W W' := by
  have hmf : ∀ (fn : Fn) (first cap : Array Value) (w : World), (Instr.makeFunc fn first cap).run Tryz.prog w = .ok (.func fn first cap) w := fun _ _ _ _ => rfl
  obtain ⟨w1, hw1⟩ : ∃ w1, w1 = (W.alloc (.cells #[.string s] 9)).alloc (.cells zeroE.toArray 99) := ⟨_, rfl⟩
  have b1 : Blk w1 W.heap.size 9 [.string s] := by rw [hw1]; exact (Blk.new W 9 [_]).alloc _
  have b2 : Blk w1 (W.heap.size + 1) 99 zeroE := by
    have := Blk.new (W.alloc (.cells #[.string s] 9)) 99 zeroE
    rw [hsz] at this
    rw [hw1]; exact this
  have hb : Below W.heap.size W w1 := by rw [hw1]; exact ((Below.refl _ _).alloc (Nat.le_refl _) _).alloc (by rw [hsz]; omega) _
  have hlow : W.heap.size + 1 < w1.heap.size := b2.lt
  have LN := Lib.hid (entE.src_len hs)
  have S1 := Lib.hid (entE.src_below hs hb)
  have hc := findAt_all w1 W.heap.size s l hl b1 A n c es S1.out hn
  have HC := Lib.hid hc
  have K2 := Lib.hid b2
  have HB := Lib.hid hb
  have FC := Lib.hid (find_cases es l)
  generalize Lib.idxBy (fun _ e => decide (e.nm = l)) es default = z at HC FC
  obtain ⟨fe, hfe⟩ : ∃ fe, fe = findE es l := ⟨_, rfl⟩
  rw [← hfe] at FC ⊢
  clear hs hc b1 b2 hb hl hfe
  go_enter Tryz.func62, Tryz.ntmps62
  go_upto_region 1 with fail
  change Code.wp _ _ _ _ ((W.alloc (.cells #[.string s] 9)).alloc (.cells zeroE.toArray 99))
  rw [← hw1]
  clear hw1
  obtain ⟨gp, hgp⟩ : ∃ gp, gp = W.heap.size := ⟨_, rfl⟩
  obtain ⟨gz, hgz⟩ : ∃ gz, gz = W.heap.size + 1 := ⟨_, rfl⟩
  have hWz : W.heap.size ≤ gz := by omega
  have HWZ := Lib.hid hWz
  rw [← hgp] at HC
  rw [← hgz] at K2 hlow
  rw [← hgz, ← hgp]
  clear hgp hgz hWz hlow
  rcases FC.out with ⟨k, hk, _, hz, hf⟩ | ⟨hz, hf⟩
  · subst hz
    have HF := Lib.hid hf
    have hln := LN.out
    have k0 : ¬ ((k : Int) < 0) := by omega
    have k1 : (k : Int) < (n : Int) := by omega
    have HK := Lib.hid hk
    obtain ⟨_, b, o, rfl, _⟩ := entE.src_at S1.out (by omega)
    have C1 : Hid (∀ w, Below w1.heap.size w1 w → ∀ j v, (encE es[k]!)[j]? = some v → w.cell? ((⟨b, o + k * 34, none⟩ : Addr).add j) = some v) := Lib.hid fun w hw => by
      obtain ⟨_, b3, o3, e3, ct3⟩ := entE.src_at (entE.src_below S1.out hw) (by omega)
      injection e3 with e3
      injection e3 with e4 e5 _
      subst e4; subst e5
      exact entE.at_elem (ct3 k (by omega))
    obtain ⟨e, he⟩ : ∃ e, e = es[k]! := ⟨_, rfl⟩
    rw [← he] at C1 HF
    have I1 := Lib.hid (infoE e)
    clear FC hf hk he hln
    go_wp2_with (first
      | (go_at_call 118; refine HC.out.mono ?_; rintro r w2 ⟨rfl, h2⟩; have B2 := Lib.hid h2; clear h2)
      | (refine wpl_loadS rfl 99 (.tmp 15) rfl ⟨b, o + k * 34, none⟩ rfl (encE e) Tryz.isAgg99 I1.out (C1.out _ B2.out) ?_)
      | (refine wpl_storeS rfl 99 (.tmp 4) _ rfl gz (encE e) rfl rfl 99 zeroE (K2.out.below B2.out) I1.out (by rw [show (encE e).length = 34 from entE.len _]; rfl) (entE.one _) ?_))
    refine bodyPost_ret (res_rowS2 rfl _ _ gz 99 (encE e) _ rfl ((K2.out.below B2.out).row _) Tryz.underlying99 rfl I1.out) rfl ⟨?_, below_setRow' (HB.out.trans (B2.out.mono HB.out.size)) HWZ.out _⟩
    rw [HF.out]
    rfl
  · subst hz
    have HF := Lib.hid hf
    have I0 := Lib.hid (infoE ⟨[], false, default⟩)
    clear FC hf
    go_wp2_with (first
      | (go_at_call 118; refine HC.out.mono ?_; rintro r w2 ⟨rfl, h2⟩; have B2 := Lib.hid h2; clear h2)
      | (refine wpl_build rfl 99 _ rfl zeroE (by kernel_rfl) ?_)
      | (refine wpl_storeS rfl 99 (.tmp 4) _ rfl gz zeroE rfl rfl 99 zeroE (K2.out.below B2.out) I0.out rfl (entE.one _) ?_))
    refine bodyPost_ret (res_rowS2 rfl _ _ gz 99 zeroE _ rfl ((K2.out.below B2.out).row _) Tryz.underlying99 rfl I0.out) rfl ⟨?_, below_setRow' (HB.out.trans (B2.out.mono HB.out.size)) HWZ.out _⟩
    rw [HF.out]
    rfl
end Go.Proofs.YtpbnigpdpkfpaaaGreatDoor
namespace Go.Proofs.YtpbnigpdpkfpaaaGreatDoor
open Go.RowKit
set_option maxHeartbeats 800000 in
theorem partBad_any (W : World) (s : ByteArray) (l : List UInt8) (hl : l = s.data.toList) (hs : s.size ≤ 9223372036854775807) : Calls Tryz.prog 121 #[.string s] W fun e W' => e = .returned (.bool (!nameB l)) ∧ Below W.heap.size W W' := by
  have HC := Lib.hid (treeName_any W s l hl hs)
  generalize nameB l = q at HC ⊢
  clear hl hs
  go_enter Tryz.func121, Tryz.ntmps121
  go_wp2_with (go_at_call 122; refine HC.out.mono ?_; rintro e w1 ⟨rfl, h1⟩; have B1 := Lib.hid h1; clear h1)
  go_ret
  exact ⟨rfl, B1.out⟩
set_option maxHeartbeats 1600000 in
/-- Where the first stands that is no name. -/
theorem partsAt_any (W : World) (A : Option Addr) (n c : Nat) (ts : List (List UInt8)) (hs : Src W 1 A n (Ss ts)) (hn : n ≤ 1099511627776) (hf : ∀ t ∈ ts, t.length ≤ 9223372036854775807) :
    Calls Tryz.prog 170 #[.slice A n c, .func (.func 121) #[] #[]] W fun e W' => ∃ z : Int, e = .returned (.int .i64 z) ∧ decide (0 ≤ z) = !ts.all nameB ∧ Below W.heap.size W W' := by
  have hl : ts.length = n := by have := hs.1; simpa using this
  have LN := Lib.hid hl
  have S0 := Lib.hid hs
  have HF := Lib.hid hf
  have n9 : (n : Int) ≤ 1099511627776 := by omega
  have HN := Lib.hid hn
  clear hl hs hf hn
  go_enter Tryz.func170, Tryz.ntmps170
  go_wp2
  go_loopw [8] (fun i wr => ∃ k : Nat, k ≤ n ∧ i = .int .i64 k ∧ Below W.heap.size W wr ∧ ∀ j, j < k → nameB (ts.getD j []) = true) (fun i _ => n - (intOf i).toNat)
  case atStart => exact ⟨0, by omega, rfl, Below.refl _ _, fun j h => by omega⟩
  case round =>
    obtain ⟨k, hk, rfl, hb, hall⟩ := hrel
    have BR := Lib.hid hb
    by_cases hlt : k < n
    · have hln := LN.out
      have k1 : (k : Int) < (n : Int) := by omega
      obtain ⟨ad, rfl, hx⟩ := (src_below S0.out hb).2.1 (by omega)
      obtain ⟨sn, hsn⟩ : ∃ sn : ByteArray, sn = ⟨(ts.getD k []).toArray⟩ := ⟨_, rfl⟩
      have hcell : wr.cell? (ad.add k) = some (.string sn) := hx k _ (by rw [hsn]; simp [Ss, List.getD_eq_getElem?_getD, show k < ts.length by omega])
      have hmem : ts.getD k [] ∈ ts := by simp [List.getD_eq_getElem?_getD, show k < ts.length by omega]
      have cB := fun w => partBad_any w sn (ts.getD k []) (by rw [hsn]) (by rw [hsn, ba_size]; exact HF.out _ hmem)
      have miss : nameB (ts.getD k []) = false → ts.all nameB = false := fun h => by
        rw [Bool.eq_false_iff]
        intro hh
        rw [List.all_eq_true.1 hh _ hmem] at h
        cases h
      have next : nameB (ts.getD k []) = true → ∀ j, j < k + 1 → nameB (ts.getD j []) = true := fun h j hj => by
        rcases Nat.lt_or_ge j k with h1 | h1
        · exact hall j h1
        · rw [show j = k by omega]; exact h
      have MISS := Lib.hid miss
      have NEXT := Lib.hid next
      have HLT := Lib.hid hlt
      generalize nameB (ts.getD k []) = q at cB MISS NEXT
      have CB := Lib.hid cB
      clear hb hall hx hsn hmem cB miss next hlt hk hln
      cases q
      · have OK := Lib.hid (MISS.out rfl)
        go_wp2_with (go_at_call 121; refine (CB.out _).mono ?_; rintro e w2 ⟨rfl, h2⟩; have B2 := Lib.hid h2; clear h2)
        go_ret
        exact ⟨_, rfl, by rw [OK.out]; exact decide_eq_true (Int.natCast_nonneg k), BR.out.trans (B2.out.mono BR.out.size)⟩
      · have OK := Lib.hid (NEXT.out rfl)
        go_wp2_with (go_at_call 121; refine (CB.out _).mono ?_; rintro e w2 ⟨rfl, h2⟩; have B2 := Lib.hid h2; clear h2)
        go_roundw
        case measure => simp [intOf]; have := HLT.out; omega
        case rel => exact ⟨k + 1, by have := HLT.out; omega, by go_num, BR.out.trans (B2.out.mono BR.out.size), OK.out⟩
    · have : k = n := by omega
      subst this
      have hok : ts.all nameB = true := by
        rw [List.all_eq_true]
        intro t ht
        obtain ⟨j, hj, rfl⟩ := List.getElem_of_mem ht
        have := hall j (by have := LN.out; omega)
        simpa [List.getD_eq_getElem?_getD, hj] using this
      have OK := Lib.hid hok
      clear hall hok hb
      go_wp2
      go_ret
      exact ⟨-1, rfl, by rw [OK.out]; rfl, BR.out⟩
theorem partsBad_any (W : World) (A : Option Addr) (n c : Nat) (ts : List (List UInt8)) (hs : Src W 1 A n (Ss ts)) (hn : n ≤ 1099511627776) (hf : ∀ t ∈ ts, t.length ≤ 9223372036854775807) :
    Calls Tryz.prog 120 #[.slice A n c, .func (.func 121) #[] #[]] W fun e W' => e = .returned (.bool (!ts.all nameB)) ∧ Below W.heap.size W W' := by
  have HC := Lib.hid (partsAt_any W A n c ts hs hn hf)
  clear hs hn hf
  go_enter Tryz.func120, Tryz.ntmps120
  go_wp2_with (go_at_call 170; refine HC.out.mono ?_; rintro e w1 ⟨z, rfl, hz, h1⟩; have HZ := Lib.hid hz; have B1 := Lib.hid h1; clear h1 hz)
  go_ret
  exact ⟨by rw [← HZ.out]; rfl, B1.out⟩
end Go.Proofs.YtpbnigpdpkfpaaaGreatDoor
