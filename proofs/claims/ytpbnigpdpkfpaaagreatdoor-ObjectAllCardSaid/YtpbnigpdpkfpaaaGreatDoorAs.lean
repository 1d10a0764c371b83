/- A text appended to a row of bytes. -/
import Derived.Test.YtpbnigpdpkfpaaaGreatDoorP5x
import Derived.Test.YtpbnigpdpkfpaaaGreatDoorP1x
import Derived.Great.BuildSlice
import Derived.Lib.AppendStr
import Derived.Laws.Append
namespace Go.Proofs.YtpbnigpdpkfpaaaGreatDoor
open Go.RowKit
theorem strCells_Bs (s : ByteArray) : Lib.strCells s = Bs s.data.toList := by
  unfold Lib.strCells Bs
  refine List.map_congr_left fun b _ => ?_
  rfl
section
variable {P : Program} (w : World)
theorem run_append_S (base : Nat) (t u ty e : TypeId) (i : TypeInfo) (ht : P.underlying t = some (.slice e)) (hu : P.underlying u = some .string) (hi : P.info? e = some i) (hz : i.zero = some (.int .u8 0)) (hsize : i.size = 1) (hby : i.bytes = 1)
    (v : Value) (n : Nat) (xs : List Value) (hown : RowQ w base e 1 v n xs) (s : ByteArray) (h63 : n + s.size ≤ 140737488355328) (hbase : base ≤ w.heap.size) :
    ∃ v' w', (Builtin.append_ #[t, u] ty #[v, .string s]).run P w = .ok v' w' ∧ RowQ w' base e 1 v' (n + s.size) (xs ++ Bs s.data.toList) ∧ w.grownBy w' v.ownBlock ∧
      (v'.ownBlock = v.ownBlock ∨ v'.ownBlock = some w.heap.size) := by
  rw [← strCells_Bs]
  have hsl := Lib.strCells_length s
  have hmax : n + s.size ≤ maxLen := by simp only [maxLen]; omega
  have hxl : xs.length = n := by simpa using hown.1
  have hlen : (xs ++ Lib.strCells s).length = (n + s.size) * 1 := by rw [List.length_append, hxl, hsl, Nat.mul_one]
  have hsmall : n + s.size ≤ 9223372036854775807 := by omega
  rcases Nat.eq_zero_or_pos s.size with hm | hm
  · have hn : Lib.strCells s = [] := List.eq_nil_of_length_eq_zero (by rw [hsl]; exact hm)
    have hf := Lib.run_firstCells_string (P := P) w 1 s
    rw [hm] at hf
    rw [hn, hm]
    refine ⟨v, w, ?_, by simpa using hown, ⟨rfl, rfl, rfl, Nat.le_refl _, fun _ _ _ => rfl⟩, .inl rfl⟩
    rcases hown.2 with ⟨rfl, rfl⟩ | ⟨g, o, cap, cur, rfl, _, _, hnc, _⟩
    · simp [Builtin.append_, run_underlying ht, run_underlying hu, sizeOf, typeInfo, hi, hsize, Builtin.lenOf, hm, hf]
    · rw [hn] at hf
      simp [Builtin.append_, run_underlying ht, run_underlying hu, sizeOf, typeInfo, hi, hsize, Builtin.lenOf, hm, hf, hnc, storeCells]
  have grown : ∀ (old : Nat), old < n + s.size → ∀ (row : Option Nat),
      RowQ (w.drew.alloc (.cells (xs.toArray ++ (Lib.strCells s).toArray ++ Builtin.zeroCells (Value.int .u8 0).cells (grownCap w (n + s.size) old e - (n + s.size))) e)) base e 1
        (.slice (some ⟨w.heap.size, 0, none⟩) (n + s.size) (grownCap w (n + s.size) old e)) (n + s.size) (xs ++ Lib.strCells s) ∧
      w.grownBy (w.drew.alloc (.cells (xs.toArray ++ (Lib.strCells s).toArray ++ Builtin.zeroCells (Value.int .u8 0).cells (grownCap w (n + s.size) old e - (n + s.size))) e)) row := by
    intro old ho row
    have hge := grownCap_ge w (n + s.size) old e
    have hcm : grownCap w (n + s.size) old e ≤ maxLen := grownCap_le_maxLen w (n + s.size) old e hmax
    refine ⟨⟨hlen, .inr ⟨w.heap.size, 0, _, _, rfl, hbase, heap_alloc_new w.drew _, hge, hcm, ?_, ?_⟩⟩, ⟨rfl, rfl, rfl, by simp, fun k hk _ => Below.heap_alloc w.drew _ k hk⟩⟩
    · have hz1 : (Value.int IntKind.u8 0).cells.size = 1 := rfl
      simp only [Array.size_append, List.size_toArray, size_zeroCells, hz1, hxl, hsl]
      omega
    · simp only [Array.toList_append, List.append_assoc, List.drop_zero]
      rw [← List.append_assoc, ← hlen]
      exact List.take_left
  rcases hown.2 with ⟨rfl, rfl⟩ | ⟨g, o, cap, cur, rfl, hbg, hg, hnc, hcm, hcs, htake⟩
  · have hx : xs = [] := List.eq_nil_of_length_eq_zero hxl
    subst hx
    have hr := run_append_nil_string (P := P) w t u ty e i (.int .u8 0) ht hu hi hz s hm (by omega) (by rw [hby]; omega)
    have hgr := grown 0 (by omega) (Value.ownBlock (.slice none 0 0))
    simp only [Nat.zero_add, List.nil_append, Array.empty_append] at hgr ⊢
    have e1 : (s.data.map fun b => Value.int .u8 b.toNat) = (Lib.strCells s).toArray := by
      apply Array.ext'
      simp [Lib.strCells]
    rw [e1] at hr
    exact ⟨_, _, hr, hgr.1, hgr.2, .inr rfl⟩
  · by_cases hroom : n + s.size ≤ cap
    · have hf := Lib.run_firstCells_string (P := P) w 1 s
      have hst := run_storeCells_at P g (o + n) e (Lib.strCells s) 0 cur w hg (by rw [hsl]; omega) (Lib.strCells_oneCell s)
      simp only [Nat.add_zero] at hst
      have hr : (Builtin.append_ #[t, u] ty #[.slice (some ⟨g, o, none⟩) n cap, .string s]).run P w =
          .ok (.slice (some ⟨g, o, none⟩) (n + s.size) cap) (w.setRow g (cur.toList.take (o + n) ++ Lib.strCells s ++ cur.toList.drop (o + n + (Lib.strCells s).length)).toArray) := by
        simp [Builtin.append_, run_underlying ht, run_underlying hu, sizeOf, typeInfo, hi, hsize, Builtin.lenOf, hroom, hf, Addr.add_lit, hst]
      refine ⟨_, _, hr, ⟨hlen, .inr ⟨g, o, cap, _, rfl, hbg, setRow_heap w g cur _ e _ hg, hroom, hcm, ?_, ?_⟩⟩, ⟨rfl, rfl, rfl, by simp, fun k _ hk => setRow_other w g k _ (fun e => hk (by simp [Value.ownBlock, e]))⟩, .inl rfl⟩
      · simp only [List.size_toArray, List.length_append, List.length_take, List.length_drop, Array.length_toList, hsl]
        omega
      · have hlc : cur.toList.length = cur.size := by simp
        have e1 : cur.toList.take (o + n) = cur.toList.take o ++ xs := by
          have := htake
          rw [Nat.mul_one] at this
          rw [← this, List.take_add]
        rw [e1, ← hlen, List.append_assoc, List.append_assoc, List.drop_append_of_le_length (by rw [List.length_take]; omega), List.drop_of_length_le (by rw [List.length_take]; omega), List.nil_append, ← List.append_assoc]
        exact List.take_left
    · have holds : ∀ j u, xs[j]? = some u → w.cell? ((⟨g, o, none⟩ : Addr).add j) = some u := by
        intro j u hu
        have hadd : (⟨g, o, none⟩ : Addr).add j = ⟨g, o + j, none⟩ := by unfold Addr.add; split <;> simp_all
        rw [hadd, cell_of_row w g (o + j) cur e (0, 0) hg]
        rw [← htake, List.getElem?_take] at hu
        split at hu
        · rw [List.getElem?_drop] at hu; simpa using hu
        · cases hu
      have hr := Lib.run_append_grow_string (P := P) w t u ty e i (.int .u8 0) ht hu hi hz ⟨g, o, none⟩ n cap xs (by rw [hsize]; exact hown.1) holds s (by omega) (by omega) (by rw [hby]; exact growslice_fits (by omega) (by omega))
      have hgr := grown cap (by omega) (Value.ownBlock (.slice (some ⟨g, o, none⟩) n cap))
      exact ⟨_, _, hr, hgr.1, hgr.2, .inr rfl⟩
end
theorem Tryz.infoB : (Tryz.prog.info? 5).map (fun i => (i.zero, i.size, i.bytes)) = some (some (.int .u8 0), 1, 1) := by kernel_rfl
/-- A text appended, as one step of a region that draws. -/
theorem step_append_S {ops : Array Oper} {o : Oper} {a : Act} {w : World} {K : Act → World → Prop} {Q : Exit → Act → World → Prop} {E : Prop} (hgd : o.guard = none) (s x : Operand) (ho : o.op = .call { callee := .builtin .append, args := #[s, x], argTypes := #[53, 9] })
    (base : Nat) (v : Value) (n : Nat) (xs : List Value) (hs : a.eval s = v) (hown : RowQ w base 5 1 v n xs) (t : ByteArray) (hx : a.eval x = .string t)
    (h63 : n + t.size ≤ 140737488355328) (hbase : base ≤ w.heap.size)
    (h : ∀ v' w', RowQ w' base 5 1 v' (n + t.size) (xs ++ Bs t.data.toList) → w.grownBy w' v.ownBlock → (v'.ownBlock = v.ownBlock ∨ v'.ownBlock = some w.heap.size) → K (a.put o.dst v') w') :
    if Region.wanted o (yielded ops a.tmps) = true then Oper.wp Tryz.prog o a w K Q else E := by
  rw [if_pos (by simp [Region.wanted, hgd])]
  obtain ⟨i0, hi, hzz⟩ := Option.map_eq_some_iff.1 Tryz.infoB
  simp only [Prod.mk.injEq] at hzz
  obtain ⟨hz0, hz1, hz2⟩ := hzz
  obtain ⟨v', w', hr, h2, h3, h4⟩ := run_append_S (P := Tryz.prog) w base 53 9 o.type 5 i0 Tryz.underlying53 (by kernel_rfl) hi hz0 hz1 hz2 v n xs hown t h63 hbase
  unfold Oper.wp execOp
  simp only [ho, resolve, invoke, builtin, Sem.run_bind, Sem.run_pure, Result.andThen_ok, List.map_toArray, List.map_cons, List.map_nil, hs, hx, hr]
  exact h v' w' h2 h3 h4
/-- A slice of one byte 0. -/
theorem step_build0 {ops : Array Oper} {o : Oper} {a : Act} {w : World} {K : Act → World → Prop} {Q : Exit → Act → World → Prop} {E : Prop} (hgd : o.guard = none) (ho : o.op = .buildSlice 53 1 #[(0, .const (.int .u8 0))])
    (h : K (a.put o.dst (.slice (some ⟨w.heap.size, 0, none⟩) 1 1)) (w.alloc (.cells #[.int .u8 0] 5))) : if Region.wanted o (yielded ops a.tmps) = true then Oper.wp Tryz.prog o a w K Q else E := by
  rw [if_pos (by simp [Region.wanted, hgd])]
  obtain ⟨ie, hi, hzz⟩ := Option.map_eq_some_iff.1 Tryz.infoB
  simp only [Prod.mk.injEq] at hzz
  obtain ⟨hz, hs, _⟩ := hzz
  refine wp_buildSlice 53 5 1 #[(0, .const (.int .u8 0))] ho #[.int .u8 0] ie _ Tryz.underlying53 hi hz (by rw [hs]; decide) (by rw [hs]; decide) ?_ h
  rw [hs]
  simp [Instr.fill, show a.eval (.const (.int .u8 0)) = .int .u8 0 from rfl, Value.cells]
  apply Array.ext
  · simp
  · intro i h1 h2
    have h3 : i = 0 := by simpa using h2
    subst h3
    simp
/-- A cell read, as one step of a region that draws. -/
theorem step_cell {P : Program} {ops : Array Oper} {o : Oper} {a : Act} {w : World} {K : Act → World → Prop} {Q : Exit → Act → World → Prop} {E : Prop} (hgd : o.guard = none) (ty : TypeId) (x : Operand) (ho : o.op = .load ty x) (ad : Addr) (hx : a.eval x = .pointer (some ad)) (v : Value)
    (hagg : (isAgg ty).run P w = .ok false w) (hc : w.cell? ad = some v) (h : K (a.put o.dst v) w) :
    if Region.wanted o (yielded ops a.tmps) = true then Oper.wp P o a w K Q else E := by
  rw [if_pos (by simp [Region.wanted, hgd])]
  have : (loadVar ty ad).run P w = .ok v w := by simp [loadVar, hagg, go_sem, hc]
  unfold Oper.wp execOp
  simp only [ho, hx, Sem.run_bind, Sem.run_pure]
  simp [Instr.loadAt, Instr.sureAddr, this]
  exact h
/-- What a text's bytes are gathered in, beside a variable of the call's own. -/
structure PutSt (W w : World) (v : Value) (n : Nat) (bs : List UInt8) (t : TypeId) (g : Nat) (cs : List Value) : Prop where
  row : RowQ w W.heap.size 5 1 v n (Bs bs)
  blk : Blk w g t cs
  ne : v.ownBlock ≠ some g
  low : Below W.heap.size W w
theorem PutSt.app {W w w' : World} {v v' : Value} {n m : Nat} {bs cs' : List UInt8} {t : TypeId} {g : Nat} {cs : List Value} (h : PutSt W w v n bs t g cs) (hr : RowQ w' W.heap.size 5 1 v' (n + m) (Bs bs ++ Bs cs')) (hg : w.grownBy w' v.ownBlock) (ha : v'.ownBlock = v.ownBlock ∨ v'.ownBlock = some w.heap.size) :
    PutSt W w' v' (n + m) (bs ++ cs') t g cs :=
  ⟨by rw [Bs_append]; exact hr, h.blk.grown hg (fun e => h.ne e.symm), by
    rcases ha with e | e
    · rw [e]; exact h.ne
    · rw [e]; intro e2; injection e2 with e2; have := h.blk.lt; omega,
   h.low.grown hg h.low.size (fun k hk => (h.row.lt k hk).1)⟩
theorem PutSt.alloc {W w : World} {v : Value} {n : Nat} {bs : List UInt8} {t : TypeId} {g : Nat} {cs : List Value} (h : PutSt W w v n bs t g cs) (o : Obj) : PutSt W (w.alloc o) v n bs t g cs :=
  ⟨h.row.alloc o, h.blk.alloc o, h.ne, h.low.alloc h.low.size o⟩
/-- A box with a byte 0, not the row's block. -/
def Box0 (w : World) (v : Value) (b : Nat) : Prop := Blk w b 5 [.int .u8 0] ∧ v.ownBlock ≠ some b
theorem Box0.new {W w : World} {v : Value} {n : Nat} {bs : List UInt8} {t : TypeId} {g : Nat} {cs : List Value} (h : PutSt W w v n bs t g cs) : Box0 (w.alloc (.cells #[.int .u8 0] 5)) v w.heap.size :=
  ⟨Blk.new w 5 [.int .u8 0], fun e => by have := (h.row.lt _ e).2; omega⟩
theorem Box0.app {w w' : World} {v v' : Value} {b : Nat} (h : Box0 w v b) (hg : w.grownBy w' v.ownBlock) (ha : v'.ownBlock = v.ownBlock ∨ v'.ownBlock = some w.heap.size) : Box0 w' v' b :=
  ⟨h.1.grown hg (fun e => h.2 e.symm), by
    rcases ha with e | e
    · rw [e]; exact h.2
    · rw [e]; intro e2; injection e2 with e2; have := h.1.lt; omega⟩
theorem Box0.src {w : World} {v : Value} {b : Nat} (h : Box0 w v b) : Src w 1 (some ⟨b, 0, none⟩) 1 (Bs [0]) :=
  ⟨rfl, fun _ => ⟨_, rfl, fun j u hu => by
    have hj : j < 1 := (List.getElem?_eq_some_iff.1 hu).1
    obtain rfl : j = 0 := by omega
    have h2 : u = .int .u8 (ub 0) := by simpa [Bs] using hu.symm
    rw [h2]
    exact h.1.cell 0 (.int .u8 0) rfl⟩, Bs_one _⟩
end Go.Proofs.YtpbnigpdpkfpaaaGreatDoor
