/- A row of names: how it lies, what is read of it; sorted, each once (oid.Sort). A row of names: an element read, as a step of a walk; whether a name is among them; two rows held against each other. The document's answers for names: which of two is the less, whether one is among others, names put in one by one. ref1.Eq: two rows of names held against each other. The document's answer for names in order: Sort. -/
import Derived.Test.YticcianbphljpaaGreatDoorOd
import Derived.Test.YticcianbphljpaaGreatDoorKc
import Derived.Test.YticcianbphljpaaGreatDoorSk
import Derived.Test.YticcianbphljpaaGreatDoorP1x
import Derived.Test.YticcianbphljpaaGreatDoorP2x
import Derived.Shelf.SlSortCmp.NoneTotal
import Derived.Shelf.SlicesQ.Contains
import Derived.Test.YticcianbphljpaaGreatDoorP5x
import Derived.Test.YticcianbphljpaaGreatDoorP16x
import Derived.Deep.DeepCutAuto
import Derived.Deep.CutBlock
import Derived.Great.BuildSlice
namespace Go.Proofs.YticcianbphljpaaGreatDoor
open Go.RowKit Go.Sort
/-- The cells of names. -/
def rowI (l : List Idt) : List Value := l.flatMap encI
theorem rowI_len (l : List Idt) : (rowI l).length = l.length * 32 := by
  induction l with
  | nil => rfl
  | cons x r ih => unfold rowI at ih ⊢; rw [List.flatMap_cons, List.length_append, ih, encI_len, List.length_cons]; omega
theorem rowI_one (l : List Idt) : ∀ v ∈ rowI l, v.oneCell' = true := by
  intro v hv
  obtain ⟨x, _, h⟩ := List.mem_flatMap.1 hv
  exact encI_one x v h
theorem rowI_append (a b : List Idt) : rowI (a ++ b) = rowI a ++ rowI b := List.flatMap_append
theorem rowI_take (l : List Idt) (k : Nat) (h : k ≤ l.length) : (rowI l).take (k * 32) = rowI (l.take k) := by
  conv => lhs; rw [← List.take_append_drop k l, rowI_append]
  rw [List.take_append_of_le_length (by rw [rowI_len, List.length_take]; omega), List.take_of_length_le (by rw [rowI_len, List.length_take]; omega)]
theorem rowI_at (l : List Idt) : ∀ (j i : Nat) (v : Value), j < l.length → (encI l[j]!)[i]? = some v → (rowI l)[j * 32 + i]? = some v := by
  induction l with
  | nil => intro j i v h; simp at h
  | cons x r ih =>
    intro j i v h hv
    have e : rowI (x :: r) = encI x ++ rowI r := rfl
    rw [e]
    cases j with
    | zero =>
      have hi : i < (encI x).length := (List.getElem?_eq_some_iff.1 hv).1
      rw [Nat.zero_mul, Nat.zero_add, List.getElem?_append_left hi]
      exact hv
    | succ j =>
      rw [List.getElem?_append_right (by rw [encI_len]; omega), encI_len, show (j + 1) * 32 + i - 32 = j * 32 + i by omega]
      exact ih j i v (by simpa using h) (by simpa using hv)
theorem rowI_flat (l : List Idt) : (flatK encI 32 l.toArray).toList = rowI l := by
  apply List.ext_getElem?
  intro t
  by_cases h : t < l.length * 32
  · have hj : t / 32 < l.length := by omega
    have h1 := get_flatK encI 32 l.toArray t (by simpa using h)
    have h2 : t < (flatK encI 32 l.toArray).size := by simpa using h
    rw [getElem!_pos _ t h2] at h1
    have hi : t % 32 < (encI l[t / 32]!).length := by rw [encI_len]; omega
    have h3 := rowI_at l (t / 32) (t % 32) _ hj (List.getElem?_eq_getElem hi)
    rw [show t / 32 * 32 + t % 32 = t by omega] at h3
    have e1 : l.toArray[t / 32]! = l[t / 32]! := by simp
    rw [h3, List.getElem?_eq_getElem (by simpa using h), Array.getElem_toList, h1, e1, getElem!_pos (encI l[t / 32]!) (t % 32) hi]
  · rw [List.getElem?_eq_none (by simp; omega), List.getElem?_eq_none (by rw [rowI_len]; omega)]
theorem add_row (ad : Addr) (h : ad.spot = none) (j : Nat) : ad.add j = ⟨ad.block, ad.off + j, none⟩ := by
  unfold Addr.add
  split
  · rename_i e; subst e; cases ad; simp_all
  · rfl
theorem cell_spot {w : World} {a : Addr} {v : Value} (h : w.cell? a = some v) : a.spot = none := by
  unfold World.cell? at h
  split at h
  · split at h
    · cases h
    · rename_i h1; cases hs : a.spot <;> simp_all
  · cases h
/-- Names that can be read: where they lie. -/
theorem src_names {w : World} {A : Option Addr} {n : Nat} {l : List Idt} (h : Src w 32 A n (rowI l)) (hn : 0 < n) : l.length = n ∧ ∃ b o, A = some ⟨b, o, none⟩ ∧ ∀ j, j < n → ∀ i v, (encI l[j]!)[i]? = some v → w.cell? ⟨b, o + j * 32 + i, none⟩ = some v := by
  have hl : l.length = n := by have := h.1; rw [rowI_len] at this; omega
  refine ⟨hl, ?_⟩
  obtain ⟨ad, hA, hc⟩ := h.2.1 hn
  have hs : ad.spot = none := by
    have hi : 0 < (encI l[0]!).length := by rw [encI_len]; omega
    have := cell_spot (hc _ _ (rowI_at l 0 0 _ (by omega) (List.getElem?_eq_getElem hi)))
    simpa [Addr.add] using this
  refine ⟨ad.block, ad.off, by rw [hA]; cases ad; simp_all, fun j hj i v hv => ?_⟩
  have := hc _ _ (rowI_at l j i v (by omega) hv)
  rwa [add_row ad hs, ← Nat.add_assoc] at this
theorem src_len {w : World} {A : Option Addr} {n : Nat} {l : List Idt} (h : Src w 32 A n (rowI l)) : l.length = n := by
  have := h.1; rw [rowI_len] at this; omega
theorem srcI_below {w w' : World} {A : Option Addr} {m : Nat} {l : List Idt} (h : Src w 32 A m (rowI l)) (hb : Below w.heap.size w w') : Src w' 32 A m (rowI l) :=
  h.far fun ad hA hm => hb.block _ (src_lt h (by decide) ad hA hm)
theorem srcI_take {w : World} {A : Option Addr} {n : Nat} {l : List Idt} (h : Src w 32 A n (rowI l)) (k : Nat) (hk : k ≤ n) : Src w 32 A k (rowI (l.take k)) := by
  have hl := src_len h
  refine ⟨by rw [rowI_len, List.length_take]; congr 1; omega, fun h0 => ?_, rowI_one _⟩
  obtain ⟨ad, ha, hx⟩ := h.2.1 (by omega)
  refine ⟨ad, ha, fun j u hj => hx j u ?_⟩
  rw [← rowI_take l k (by omega), List.getElem?_take] at hj
  split at hj
  · exact hj
  · cases hj
/-- A row of the call's own. -/
theorem holds_of_row {w : World} {B : Nat} {e : TypeId} {g o n cap : Nat} {l : List Idt} (h : RowQ w B e 32 (.slice (some ⟨g, o, none⟩) n cap) n (rowI l)) : l.length = n ∧ B ≤ g ∧ g < w.heap.size ∧ n ≤ cap ∧ HoldsK encI 32 w g o l.toArray := by
  have hl : l.length = n := by have := h.1; rw [rowI_len] at this; omega
  rcases h.2 with ⟨hv, _⟩ | ⟨g', o', cap', cur, hv, hbg, hg, hnc, hcm, hcs, ht⟩
  · injection hv with h1; cases h1
  · injection hv with hA _ hc
    injection hA with hA
    injection hA with h1 h2 _
    subst h1; subst h2; subst hc
    refine ⟨hl, hbg, (Array.getElem?_eq_some_iff.1 hg).1, hnc, fun j hj => ⟨?_, frozen_of_row w g (o + j) cur e hg⟩⟩
    rw [cell_of_row w g (o + j) cur e (0, 0) hg]
    have hj2 : j < n * 32 := by rw [size_flatK] at hj; simpa [hl] using hj
    have h1 : (rowI l)[j]? = some (flatK encI 32 l.toArray)[j]! := by
      rw [← rowI_flat, List.getElem?_eq_getElem (by simpa using hj), getElem!_pos _ j hj, Array.getElem_toList]
    rw [← ht, List.getElem?_take, if_pos hj2, List.getElem?_drop] at h1
    simpa using h1
theorem src_of_holds {w : World} {g o : Nat} {d : Array Idt} (h : HoldsK encI 32 w g o d) (m : Nat) (hm : m ≤ d.size) : Src w 32 (some ⟨g, o, none⟩) m (rowI (d.toList.take m)) := by
  have hl : (d.toList.take m).length = m := by rw [List.length_take, Array.length_toList]; omega
  refine ⟨by rw [rowI_len, hl], fun _ => ⟨_, rfl, fun j u hj => ?_⟩, rowI_one _⟩
  rw [← rowI_take _ m (by simpa using hm), List.getElem?_take] at hj
  split at hj
  · rename_i hjm
    have hs : j < (flatK encI 32 d).size := by rw [size_flatK]; have := Nat.mul_le_mul_right 32 hm; omega
    have h1 := (h j hs).1
    have e := rowI_flat d.toList
    rw [Array.toArray_toList] at e
    rw [← e, List.getElem?_eq_getElem (by simpa using hs), Array.getElem_toList] at hj
    rw [add_row _ rfl, h1, ← hj, getElem!_pos _ j hs]
    rfl
  · cases hj
theorem below_putRowK {B : Nat} {a w : World} (h : Below B a w) (blk off : Nat) (d : Array Idt) (hb : B ≤ blk) : Below B a (putRowK encI 32 w blk off d) :=
  h.trans ⟨rfl, rfl, rfl, by simp [putRowK, putRow, mapBlock], fun k hk => by simp only [putRowK, putRow, mapBlock, Array.getElem?_modify]; rw [if_neg (by omega)]⟩
theorem below_grow {B : Nat} {a w : World} (h : Below B a w) (os : Array Obj) (hB : B ≤ w.heap.size) : Below B a (grow w os) :=
  h.trans ⟨rfl, rfl, rfl, by simp [grow], fun k hk => by simp only [grow]; rw [Array.getElem?_append_left (by omega)]⟩
theorem below_ahead {B : Nat} {a w : World} (h : Below B a w) (n : Nat) : Below B a (Sort.ahead w n) := ⟨h.os, h.tape, h.output, h.size, h.block⟩
theorem Tryz.infoIdz : (Tryz.prog.info? 25).map (fun i => (i.zero, i.size, i.bytes)) = some (some (.agg zero32.toArray), 32, 32) := by kernel_rfl
set_option maxHeartbeats 800000 in
theorem cloneI_any (W : World) (A : Option Addr) (n c : Nat) (l : List Idt) (hs : Src W 32 A n (rowI l)) (hn : n ≤ 1099511627776) :
    Calls Tryz.prog 94 #[.slice A n c] W fun e W' => ∃ v, e = .returned v ∧ RowQ W' W.heap.size 25 32 v n (rowI l) ∧ Below W.heap.size W W' := by
  have hnil : ∀ W, (binOp .eql 31 (.slice A n c) (.slice none 0 0)).run Tryz.prog W = .ok (.bool A.isNone) W := fun W => by cases A <;> exact Lib.run_eql_slice_nil (P := Tryz.prog) W 31 25 _ n c 0 0 Tryz.underlying31
  cases A with
  | none =>
    have h0 : n = 0 := by
      rcases Nat.eq_zero_or_pos n with h | h
      · exact h
      · obtain ⟨ad, h1, _⟩ := hs.2.1 h; cases h1
    subst h0
    have hl : l = [] := List.eq_nil_of_length_eq_zero (src_len hs)
    subst hl
    clear hs
    go_enter Tryz.func94, Tryz.ntmps94
    go_wp2
    go_ret
    exact ⟨_, rfl, RowQ.nil _ _ _ _, Below.refl _ _⟩
  | some ad =>
    have HS := Lib.hid hs
    clear hs
    go_enter Tryz.func94, Tryz.ntmps94
    go_wp2_with (at_builtin; refine wpl_append rfl (.tmp 5) (.tmp 6) 31 rfl W.heap.size 25 (.agg zero32.toArray) 32 32 Tryz.underlying31 Tryz.infoIdz rfl (by decide) (.slice (some ⟨W.heap.size, 0, none⟩) 0 0) 0 [] rfl (RowQ.empty_new W 25 32) (some ad) n c (rowI l) rfl (HS.out.far (fun ad hA hm => Below.heap_alloc W _ _ (src_lt HS.out (by decide) ad hA hm))) (by omega) (by omega) (by simp) ?_; intro v1 w1 hr1 hg1 hat1; have P1 := Lib.hid (And.intro hr1 (And.intro hg1 hat1)); clear hr1 hg1 hat1)
    go_ret
    obtain ⟨h1, h2, h3⟩ := P1.out
    refine ⟨v1, rfl, by simpa using h1, ?_⟩
    exact ((Below.refl _ W).alloc (Nat.le_refl _) _).grown h2 (by simp) (by intro k hk; simp [Value.ownBlock] at hk; omega)
theorem eqlI (w : World) (x y : Idt) : (Op.equalIn 10000 25 (.agg (encI x).toArray) (.agg (encI y).toArray)).run Tryz.prog w = .ok (decide (x = y)) w := by
  have := eqIn_bytes w 25 Tryz.underlying25 x.1 y.1 x.2 y.2
  have e : decide (x.1 = y.1) = decide (x = y) := by
    by_cases h : x = y
    · rw [decide_eq_true h, decide_eq_true (by rw [h])]
    · rw [decide_eq_false h, decide_eq_false (fun e => h (Subtype.ext e))]
  rw [e] at this
  exact this
theorem eqlAtI : EqlAt Tryz.prog 25 (fun x => .agg (encI x).toArray) (fun x y => decide (x = y)) :=
  ⟨fun x y w => by rw [run_eql_struct, eqlI w x y]; rfl, GuardAt.agg _ (by kernel_rfl)⟩
theorem neqAtI : NeqAt Tryz.prog 25 (fun x => .agg (encI x).toArray) (fun x y => decide (x = y)) :=
  ⟨fun x y w => by rw [run_neq_struct, eqlI w x y]; rfl, GuardAt.agg _ (by kernel_rfl)⟩
def Tryz.compactK_ren : Go.Shelf.Ren := ⟨fun | 43 => 97 | n => n, fun | 0 => 0 | 3 => 3 | 4 => 4 | 22 => 31 | 23 => 25 | n => n, fun n => n⟩
theorem Tryz.compactK : CoLays Tryz.prog Tryz.compactK_ren := {
  mixed := by kernel_rfl
  f43 := ⟨Tryz.f97.name, by decide, Tryz.func97.trans (congrArg some (by kernel_rfl))⟩
  t0 := Tryz.underlying0
  a0 := Tryz.isAgg0
  z0 := Tryz.sizeOf0
  v0 := Tryz.zeroValue0
  t3 := Tryz.underlying3
  a3 := Tryz.isAgg3
  z3 := Tryz.sizeOf3
  v3 := Tryz.zeroValue3
  t4 := Tryz.underlying4
  a4 := Tryz.isAgg4
  z4 := Tryz.sizeOf4
  v4 := Tryz.zeroValue4
  t22 := Tryz.underlying31
  a22 := Tryz.isAgg31
  z22 := Tryz.sizeOf31
  v22 := Tryz.zeroValue31 }
theorem zeroI : ∀ w, (zeroValue 25).run Tryz.prog w = .ok (.agg (encI default).toArray) w := fun w => (Tryz.zeroValue25 w).trans (congrArg (fun v => Result.ok v w) (by kernel_rfl))
theorem compactI (blk off cap : Nat) (d : Array Idt) (w : World) (hH : HoldsK encI 32 w blk off d) (hsz : d.size ≤ 9223372036854775807) (hcap : d.size ≤ cap) :
    Calls Tryz.prog 97 #[.slice (some ⟨blk, off, none⟩) d.size cap] w fun e w' => e = .returned (.slice (some ⟨blk, off, none⟩) (Lib.compactUpTo d d.size).length cap) ∧ ∃ q, w' = putRowK encI 32 (Sort.ahead w q) blk off (Lib.compactUpTo d d.size ++ List.replicate (d.size - (Lib.compactUpTo d d.size).length) default).toArray :=
  compactK Tryz.compactK 32 Tryz.isAgg25 Tryz.sizeOf25 encI encI_len encI_one eqlAtI neqAtI default zeroI blk off cap d w hH hsz hcap
theorem sortFuncI (blk off cap : Nat) (d : Array Idt) (w : World) (hH : HoldsK encI 32 w blk off d) (hblk : blk < w.heap.size) (hsz : d.size < 4611686018427387904) :
    Calls Tryz.prog 95 #[.slice (some ⟨blk, off, none⟩) d.size cap, .func (.func 96) #[] #[]] w fun e w' =>
      e = .returned (.tuple #[]) ∧ ∃ n os, w' = sortWorldK encI 32 w blk off n (d.toList.mergeSort fun x y => !ilt y x).toArray os :=
  AnyQ.slices_SortFunc_total Tryz.sortK 32 Tryz.isAgg25 Tryz.sizeOf25 encI encI_len encI_one icmp ilt_swo 96 #[] blk off cap d w (enters_of Tryz.func96 (by kernel_rfl) rfl) (cmpLaysI _ _ _ _) hH hblk hsz ilt_total
theorem sortFuncI_none (p : Option Addr) (cap : Nat) (w : World) : Calls Tryz.prog 95 #[.slice p 0 cap, .func (.func 96) #[] #[]] w fun e w' => e = .returned (.tuple #[]) ∧ w' = w :=
  AnyF.slices_SortFunc_none Tryz.sortK p cap _ w
theorem compactI_none (p : Option Addr) (cap : Nat) (w : World) : Calls Tryz.prog 97 #[.slice p 0 cap] w fun e w' => e = .returned (.slice p 0 cap) ∧ w' = w := by
  go_enter Tryz.func97, Tryz.ntmps97
  go_wp2
  go_ret
  exact ⟨rfl, rfl⟩
/-- Names in order, each once: what oid.Sort hands back. -/
def IdsPost (W : World) (l : List Idt) (e : Ending) (W' : World) : Prop :=
  ∃ A c, e = .returned (.slice A l.length c) ∧ Src W' 32 A l.length (rowI l) ∧ Below W.heap.size W W'
theorem isort_row (W : World) (l : List Idt) (hn : l.length ≤ 1099511627776) (B g o cap : Nat) (w1 : World) (hr : RowQ w1 B 25 32 (.slice (some ⟨g, o, none⟩) l.length cap) l.length (rowI l)) (hb : W.heap.size ≤ B) (hW : Below W.heap.size W w1) :
    Calls Tryz.prog 95 #[.slice (some ⟨g, o, none⟩) l.length cap, .func (.func 96) #[] #[]] w1 fun e w2 => e = .returned (.tuple #[]) ∧ Below W.heap.size W w2 ∧
      Calls Tryz.prog 97 #[.slice (some ⟨g, o, none⟩) l.length cap] w2 (IdsPost W (sortI l)) := by
  obtain ⟨_, h1, h2, h3, h4⟩ := holds_of_row hr
  have hs := sortFuncI g o cap l.toArray w1 h4 h2 (by simp; omega)
  rw [List.size_toArray] at hs
  refine hs.mono fun e w2 ⟨he, n, os, hw⟩ => ⟨he, ?_, ?_⟩
  · rw [hw]
    exact below_grow (below_putRowK (below_ahead hW _) _ _ _ (by omega)) _ (by have := hW.size; simp [putRowK, putRow, mapBlock]; omega)
  · have hH2 : HoldsK encI 32 w2 g o (l.mergeSort fun x y => !ilt y x).toArray := by
      rw [hw]
      exact holdsK_sortWorldK_c encI 32 w1 g o l.toArray _ n os h4 h2 (by simp)
    have hc := compactI g o cap _ w2 hH2 (by simp; omega) (by simp; omega)
    have hL := sortI_len l
    have e0 : (l.mergeSort fun x y => !ilt y x).toArray.size = l.length := by simp
    have e1 : Lib.compactUpTo (l.mergeSort fun x y => !ilt y x).toArray (l.mergeSort fun x y => !ilt y x).toArray.size = sortI l := rfl
    rw [e1, e0] at hc
    have hB2 : Below W.heap.size W w2 := by
      rw [hw]
      exact below_grow (below_putRowK (below_ahead hW _) _ _ _ (by omega)) _ (by have := hW.size; simp [putRowK, putRow, mapBlock]; omega)
    refine hc.mono fun e w3 ⟨he, q, hw3⟩ => ⟨_, cap, he, ?_, ?_⟩
    · rw [hw3]
      have h5 : HoldsK encI 32 (putRowK encI 32 (Sort.ahead w2 q) g o (sortI l ++ List.replicate (l.length - (sortI l).length) default).toArray) g o (sortI l ++ List.replicate (l.length - (sortI l).length) default).toArray :=
        holdsK_putRowK encI 32 _ g o _ _ (holdsK_ahead encI 32 w2 q g o _ hH2) (by simp; omega)
      have := src_of_holds h5 (sortI l).length (by simp)
      simpa using this
    · rw [hw3]
      exact below_putRowK (below_ahead hB2 _) _ _ _ (by omega)
set_option maxHeartbeats 1600000 in
theorem isort_any (W : World) (A : Option Addr) (n c : Nat) (l : List Idt) (hs : Src W 32 A n (rowI l)) (hn : n ≤ 1099511627776) : Calls Tryz.prog 62 #[.slice A n c] W (IdsPost W (sortI l)) := by
  have hl := src_len hs
  have hc := cloneI_any W A n c l hs hn
  have HC := Lib.hid hc
  rcases Nat.eq_zero_or_pos n with h0 | hp
  · subst h0
    have hl0 : l = [] := List.eq_nil_of_length_eq_zero hl
    subst hl0
    have e0 : sortI [] = [] := by simp [sortI, Lib.compactUpTo]
    rw [e0]
    clear hs hc hl
    go_enter Tryz.func62, Tryz.ntmps62
    go_wp2_with (first
      | (go_at_call 94; refine HC.out.mono ?_; rintro e w1 ⟨v, rfl, h1, h2⟩; obtain ⟨A1, c1, rfl, _⟩ := h1.shape; have P1 := Lib.hid h2; clear h1 h2)
      | (go_at_call 95; refine (sortFuncI_none _ _ _).mono ?_; rintro e _ ⟨rfl, rfl⟩)
      | (go_at_call 97; refine (compactI_none _ _ _).mono ?_; rintro e _ ⟨rfl, rfl⟩))
    go_ret
    exact ⟨A1, c1, rfl, ⟨rfl, fun h => absurd h (by simp), fun u hu => absurd hu (by simp [rowI])⟩, P1.out⟩
  · subst hl
    clear hs hc
    have HP := Lib.hid hp
    have HN := Lib.hid hn
    clear hp hn
    go_enter Tryz.func62, Tryz.ntmps62
    go_wp2_with (first
      | (go_at_call 94; refine HC.out.mono ?_; rintro e w1 ⟨v, rfl, h1, h2⟩
         obtain ⟨g, o, cap, rfl⟩ : ∃ g o cap, v = .slice (some ⟨g, o, none⟩) l.length cap := by
           rcases h1.2 with ⟨_, h3⟩ | ⟨g, o, cap, _, h3, _⟩
           · exact absurd HP.out (by omega)
           · exact ⟨g, o, cap, h3⟩
         have P1 := Lib.hid (isort_row W l HN.out _ g o cap w1 h1 (Nat.le_refl _) h2); clear h1 h2)
      | (go_at_call 95; refine P1.out.mono ?_; rintro e w2 ⟨rfl, _, h2⟩; have P2 := Lib.hid h2; clear h2)
      | (go_at_call 97; refine P2.out.mono ?_; rintro e w3 ⟨A3, c3, rfl, h3⟩; have P3 := Lib.hid h3; clear h3))
    go_ret
    exact ⟨A3, c3, rfl, P3.out⟩
end Go.Proofs.YticcianbphljpaaGreatDoor
namespace Go.Proofs.YticcianbphljpaaGreatDoor
open Go.RowKit Go.Sort
section
variable {P : Program}
theorem run_loadA (w : World) (ty : TypeId) (ad : Addr) (cs : List Value) (n : Nat) (e : TypeId) (hu : P.underlying ty = some (.array n e)) (hi : (P.info? ty).map (·.size) = some cs.length)
    (h : ∀ j v, cs[j]? = some v → w.cell? (ad.add j) = some v) : (Instr.loadAt ty (.pointer (some ad))).run P w = .ok (.agg cs.toArray) w := by
  have hl : (loadCells ad cs.length).run P w = .ok cs.toArray w := run_loadCells_list (P := P) (w := w) ad cs h
  have : (loadVar ty ad).run P w = .ok (.agg cs.toArray) w := by
    cases hq : P.info? ty with
    | none => simp [hq] at hi
    | some i =>
      have hs : i.size = cs.length := by simpa [hq] using hi
      have hagg : (isAgg ty).run P w = .ok true w := by
        unfold isAgg
        rw [Sem.run_bind, run_underlying hu w]
        rfl
      simp [loadVar, hagg, sizeOf, typeInfo, hq, hs, hl]
  simpa [Instr.loadAt, Instr.sureAddr] using this
variable {ops : Array Oper} {rest : List Oper} {o : Oper} {a : Act} {w : World} {C : World → Prop}
theorem wpl_loadA {Q : Exit → Act → World → Prop} (hgd : o.guard = none) (ty : TypeId) (x : Operand) (ho : o.op = .load ty x) (ad : Addr) (hx : a.eval x = .pointer (some ad)) (cs : List Value) (n : Nat) (e : TypeId) (hu : P.underlying ty = some (.array n e)) (hi : (P.info? ty).map (·.size) = some cs.length)
    (hc : ∀ j v, cs[j]? = some v → w.cell? (ad.add j) = some v) (h : wpList P ops Q rest (a.put o.dst (.agg cs.toArray)) w) : wpList P ops Q (o :: rest) a w := by
  refine wpList_plain hgd fun K hK => ?_
  unfold Oper.wp execOp
  simp only [ho, hx, Sem.run_bind, Sem.run_pure, Result.andThen_ok, run_loadA w ty ad cs n e hu hi hc]
  exact hK _ _ h
theorem wpQuiet_loadA {Q : Act → Prop} (hgd : Region.wanted o (yielded ops a.tmps) = true) (ty : TypeId) (x : Operand) (ho : o.op = .load ty x) (ad : Addr) (hx : a.eval x = .pointer (some ad)) (cs : List Value) (n : Nat) (e : TypeId) (hu : P.underlying ty = some (.array n e)) (hi : (P.info? ty).map (·.size) = some cs.length)
    (hc : ∀ w, C w → ∀ j v, cs[j]? = some v → w.cell? (ad.add j) = some v) (h : wpQuiet P ops C Q rest (a.put o.dst (.agg cs.toArray))) : wpQuiet P ops C Q (o :: rest) a := by
  refine wpQuiet_val hgd (.agg cs.toArray) (fun w hw => ?_) h
  unfold execOp
  simp only [ho, hx]
  simp [run_loadA w ty ad cs n e hu hi (hc w hw)]
end
theorem infoI (x : Idt) : (Tryz.prog.info? 25).map (·.size) = some (encI x).length := by rw [Tryz.sizeId, encI_len]
/-- The place of element k of a row. -/
theorem at_name {w : World} {b o : Nat} {x : Idt} {k : Nat} (h : ∀ i v, (encI x)[i]? = some v → w.cell? ⟨b, o + k * 32 + i, none⟩ = some v) : ∀ j v, (encI x)[j]? = some v → w.cell? ((⟨b, o + k * 32, none⟩ : Addr).add j) = some v := by
  intro j v hv
  rw [add_row _ rfl]
  exact h j v hv
set_option maxHeartbeats 1600000 in
/-- Two rows of the same names. -/
theorem ieq_same (W : World) (A B : Option Addr) (n c d : Nat) (l : List Idt) (ha : Src W 32 A n (rowI l)) (hb : Src W 32 B n (rowI l)) (hn : n ≤ 1099511627776) :
    Calls Tryz.prog 22 #[.slice A n c, .slice B n d] W fun e W' => e = .returned (.bool true) ∧ ∃ q, W' = W.drewN q := by
  have HA := Lib.hid ha
  have HB := Lib.hid hb
  clear ha hb
  go_enter Tryz.func22, Tryz.ntmps22
  go_wp2
  go_loopw [5] (fun i wr => ∃ k q : Nat, k ≤ n ∧ i = .int .i64 k ∧ wr = W.drewN q) (fun i _ => n - (intOf i).toNat)
  case atStart => exact ⟨0, 0, by omega, rfl, rfl⟩
  case round =>
    obtain ⟨k, q, hk, rfl, rfl⟩ := hrel
    by_cases hlt : k < n
    · obtain ⟨hl, ba, oa, rfl, ca⟩ := src_names HA.out (by omega)
      obtain ⟨_, bb, ob, rfl, cb⟩ := src_names HB.out (by omega)
      have ca1 := at_name (ca k hlt)
      have cb1 := at_name (cb k hlt)
      have hin := infoI l[k]!
      have heq : ∀ w, (binOp .neq 25 (.agg (encI l[k]!).toArray) (.agg (encI l[k]!).toArray)).run Tryz.prog w = .ok (.bool false) w := fun w => by
        have := neqAtI.1 l[k]! l[k]! w
        simpa using this
      have hgu : ∀ op a b w, (eqGuard op 25 a b (.agg (encI l[k]!).toArray) (.agg (encI l[k]!).toArray)).run Tryz.prog w = .ok () w := fun op a b w => neqAtI.2 op a b l[k]! l[k]! w
      generalize encI l[k]! = cs at ca1 cb1 hin heq hgu
      have CA := Lib.hid ca1
      have CB := Lib.hid cb1
      have HI := Lib.hid hin
      clear ca cb ca1 cb1 HA HB hl hin
      have k1 : (k : Int) < (n : Int) := by omega
      have k2 : (n : Int) ≤ 1099511627776 := by omega
      have HN := Lib.hid hn
      have HK := Lib.hid hk
      have HL := Lib.hid hlt
      clear hn hk 
      go_wp2
      refine wp_region_quiet_lit (by kernel_rfl) (by kernel_rfl) ?_
      repeat (go_big_quiet_step (fail))
      refine wpQuiet_loadA (by rfl) 25 (.tmp 19) rfl ⟨ba, oa + k * 32, none⟩ rfl cs 32 5 Tryz.underlying25 HI.out (fun w ⟨m, hw⟩ => by subst hw; exact CA.out) ?_
      quiet_step (fail)
      repeat (go_big_quiet_step (fail))
      refine wpQuiet_loadA (by rfl) 25 (.tmp 23) rfl ⟨bb, ob + k * 32, none⟩ rfl cs 32 5 Tryz.underlying25 HI.out (fun w ⟨m, hw⟩ => by subst hw; exact CB.out) ?_
      quiet_step (fail)
      refine wpQuiet_nil ?_
      rintro _ ⟨n9, rfl⟩
      go_wp2
      go_roundw
      case measure => simp [intOf]; have := HL.out; omega
      case rel => exact ⟨k + 1, q + n9, by have := HL.out; omega, by go_num, by simp⟩
    · have : k = n := by omega
      subst this
      go_wp2
      go_ret
      exact ⟨rfl, q, rfl⟩
theorem any_mem (l : List Idt) (x : Idt) : ((l.take l.length).any fun y => decide (x = y)) = decide (x ∈ l) := by
  rw [List.take_length, Bool.eq_iff_iff]
  simp
theorem boxI_blk (W : World) (x : Idt) : Blk (W.alloc (.cells (encI x).toArray 25)) W.heap.size 25 (encI x) := Blk.new W _ _
end Go.Proofs.YticcianbphljpaaGreatDoor
namespace Go.Proofs.YticcianbphljpaaGreatDoor
open Go.RowKit Go.Sort
theorem cmp_prefix (p a b : List UInt8) : Lib.compareBytes (p ++ a) (p ++ b) = Lib.compareBytes a b := by
  induction p with
  | nil => rfl
  | cons c p ih =>
    show (if c < c then -1 else if c < c then 1 else Lib.compareBytes (p ++ a) (p ++ b)) = _
    rw [if_neg (UInt8.lt_irrefl c), if_neg (UInt8.lt_irrefl c), ih]
theorem split_at (l : List UInt8) (k : Nat) (h : k < l.length) : l = l.take k ++ gb l k :: l.drop (k + 1) := by
  conv => lhs; rw [← List.take_append_drop k l, List.drop_eq_getElem_cons h]
  simp [gb, List.getD_eq_getElem?_getD, h]
theorem take_same {a b : List UInt8} (k : Nat) (ha : k ≤ a.length) (hb : k ≤ b.length) (h : ∀ j, j < k → gb a j = gb b j) : a.take k = b.take k := by
  apply List.ext_getElem?
  intro j
  by_cases hj : j < k
  · have := h j hj
    simp only [gb, List.getD_eq_getElem?_getD] at this
    rw [List.getElem?_take, List.getElem?_take, if_pos hj, if_pos hj, List.getElem?_eq_getElem (by omega : j < a.length), List.getElem?_eq_getElem (by omega : j < b.length)]
    rw [List.getElem?_eq_getElem (by omega : j < a.length), List.getElem?_eq_getElem (by omega : j < b.length)] at this
    simpa using this
  · rw [List.getElem?_eq_none (by rw [List.length_take]; omega), List.getElem?_eq_none (by rw [List.length_take]; omega)]
theorem ilt_at (x y : Idt) (k : Nat) (hk : k < 32) (h : ∀ j, j < k → gb x.1 j = gb y.1 j) (hne : gb x.1 k ≠ gb y.1 k) : ilt x y = decide (ub (gb x.1 k) < ub (gb y.1 k)) := by
  have hx := x.2
  have hy := y.2
  have e : ilt x y = decide (Lib.compareBytes x.1 y.1 < 0) := rfl
  have e2 : Lib.compareBytes x.1 y.1 = Lib.compareBytes (gb x.1 k :: x.1.drop (k + 1)) (gb y.1 k :: y.1.drop (k + 1)) := by
    conv => lhs; rw [split_at x.1 k (by omega), split_at y.1 k (by omega)]
    rw [← take_same k (by omega) (by omega) h, cmp_prefix]
  rw [e, e2]
  generalize gb x.1 k = a at hne ⊢
  generalize gb y.1 k = b at hne ⊢
  unfold Lib.compareBytes
  by_cases h1 : a < b
  · have : ub a < ub b := by unfold ub; have := UInt8.lt_iff_toNat_lt.1 h1; omega
    simp [h1, this]
  · have h2 : b < a := by
      rcases UInt8.lt_or_lt_of_ne hne with h | h
      · exact absurd h h1
      · exact h
    have : ¬ ub a < ub b := by unfold ub; have := UInt8.lt_iff_toNat_lt.1 h2; omega
    simp [h1, h2, this]
theorem id_ext {x y : Idt} (h : ∀ j, j < 32 → gb x.1 j = gb y.1 j) : x = y := by
  have hx := x.2
  have hy := y.2
  have := take_same 32 (by omega) (by omega) h
  rw [List.take_of_length_le (by omega), List.take_of_length_le (by omega)] at this
  exact Subtype.ext this
set_option maxRecDepth 20000 in
set_option maxHeartbeats 1600000 in
theorem lessId_any (W : World) (x y : Idt) : Calls Tryz.prog 53 #[.agg (encI x).toArray, .agg (encI y).toArray] W fun e W' => e = .returned (.bool (ilt x y)) ∧ Below W.heap.size W W' := by
  have b1 : Blk (boxes W x y) W.heap.size 25 (encI x) := (Blk.new W _ _).alloc _
  have b2 : Blk (boxes W x y) (W.heap.size + 1) 25 (encI y) := by
    have := Blk.new (W.alloc (.cells (encI x).toArray 25)) 25 (encI y)
    rwa [hsz] at this
  have hl : Below W.heap.size W (boxes W x y) := ((Below.refl _ _).alloc (Nat.le_refl _) _).alloc (by rw [hsz]; omega) _
  have hbx : (W.alloc (.cells (encI x).toArray 25)).alloc (.cells (encI y).toArray 25) = boxes W x y := rfl
  have h32x : x.1.length = 32 := x.2
  have h32y : y.1.length = 32 := y.2
  have X1 := Lib.hid b1
  have X2 := Lib.hid b2
  have HL := Lib.hid hl
  have HX := Lib.hid h32x
  have HY := Lib.hid h32y
  clear b1 b2 hl h32x h32y
  go_enter Tryz.func53, Tryz.ntmps53
  go_upto_region 1 with fail
  generalize hW2 : boxes W x y = W2 at X1 X2 HL ⊢
  clear hW2 hbx
  generalize W.heap.size = g at X1 X2 ⊢
  go_wp2
  go_loopw [5] (fun i wr => ∃ k q : Nat, k ≤ 32 ∧ i = .int .i64 k ∧ wr = W2.drewN q ∧ ∀ j, j < k → gb x.1 j = gb y.1 j) (fun i _ => 32 - (intOf i).toNat)
  case atStart => exact ⟨0, 0, by omega, rfl, rfl, fun j h => by omega⟩
  case round =>
    obtain ⟨k, q, hk, rfl, rfl, hall⟩ := hrel
    by_cases hlt : k < 32
    · have l1 : (k : Int) < 32 := by omega
      have c1 : W2.cell? ⟨g, k, none⟩ = some (.int .u8 (ub (gb x.1 k))) := X1.out.cell k _ (Bs_at x.1 k (by have := HX.out; omega))
      have c2 : W2.cell? ⟨g + 1, k, none⟩ = some (.int .u8 (ub (gb y.1 k))) := X2.out.cell k _ (Bs_at y.1 k (by have := HY.out; omega))
      by_cases hne : gb x.1 k = gb y.1 k
      · have hall' : ∀ j, j < k + 1 → gb x.1 j = gb y.1 j := fun j hj => by
          rcases Nat.lt_or_ge j k with h | h
          · exact hall j h
          · rw [show j = k by omega]; exact hne
        have HA := Lib.hid hall'
        rw [← hne] at c2
        generalize ub (gb x.1 k) = u at c1 c2
        clear hall hall' hne
        go_wp2
        go_quiet (fail)
        go_wp2
        go_roundw
        case measure => simp [intOf]; omega
        case rel => exact ⟨k + 1, q + nq, by omega, by go_num, by simp, HA.out⟩
      · have hi := ilt_at x y k hlt hall hne
        have hu : ¬ ub (gb x.1 k) = ub (gb y.1 k) := fun e => hne (ub_inj e)
        have HI := Lib.hid hi
        generalize ub (gb x.1 k) = u at c1 hu HI
        generalize ub (gb y.1 k) = v at c2 hu HI
        clear hall hne hi
        go_wp2
        go_quiet (fail)
        go_wp2
        go_quiet (fail)
        go_wp2
        go_ret
        exact ⟨by rw [HI.out]; rfl, below_drewN' (below_drewN' (below_drewN' HL.out _) _) _⟩
    · have : k = 32 := by omega
      subst this
      have hxy := id_ext hall
      subst hxy
      have HI := Lib.hid (ilt_irrefl x)
      clear hall
      go_wp2
      go_ret
      exact ⟨by rw [HI.out]; rfl, below_drewN' HL.out _⟩
set_option maxHeartbeats 1600000 in
/-- .. among others. -/
theorem rhas_any (W : World) (A : Option Addr) (n c : Nat) (l : List Idt) (hs : Src W 32 A n (rowI l)) (hn : n ≤ 1099511627776) (x : Idt) :
    Calls Tryz.prog 61 #[.slice A n c, .agg (encI x).toArray] W fun e W' => e = .returned (.bool (decide (x ∈ l))) ∧ Below W.heap.size W W' := by
  obtain ⟨w1, hw1⟩ : ∃ w1, w1 = W.alloc (.cells (encI x).toArray 25) := ⟨_, rfl⟩
  have hb := (Below.refl W.heap.size W).alloc (Nat.le_refl _) (.cells (encI x).toArray 25)
  have hB := boxI_blk W x
  rw [← hw1] at hb hB
  have S1 := Lib.hid (srcI_below hs hb)
  have LN := Lib.hid (src_len hs)
  have lx := infoI x
  have HB := Lib.hid hb
  have HX := Lib.hid hB
  have LX := Lib.hid lx
  clear hs hb hB lx
  have n9 : (n : Int) ≤ 1099511627776 := by omega
  have HN := Lib.hid hn
  clear hn
  go_enter Tryz.func61, Tryz.ntmps61
  go_upto_region 1 with fail
  rw [← hw1]
  clear hw1
  generalize W.heap.size = g at HX ⊢
  go_wp2
  go_loopw [5] (fun i wr => ∃ k q : Nat, k ≤ n ∧ i = .int .i64 k ∧ wr = w1.drewN q ∧ ∀ j, j < k → l[j]! ≠ x) (fun i _ => n - (intOf i).toNat)
  case atStart => exact ⟨0, 0, by omega, rfl, rfl, fun j h => by omega⟩
  case round =>
    obtain ⟨k, q, hk, rfl, rfl, hall⟩ := hrel
    by_cases hlt : k < n
    · have l1 : (k : Int) < (n : Int) := by omega
      obtain ⟨hl, b, o, rfl, ct⟩ := src_names S1.out (by omega)
      have c1 := at_name (ct k hlt)
      have i1 := infoI l[k]!
      have heq : ∀ w, (binOp .eql 25 (.agg (encI l[k]!).toArray) (.agg (encI x).toArray)).run Tryz.prog w = .ok (.bool (decide (l[k]! = x))) w := fun w => eqlAtI.1 l[k]! x w
      have hgu : ∀ op a b w, (eqGuard op 25 a b (.agg (encI l[k]!).toArray) (.agg (encI x).toArray)).run Tryz.prog w = .ok () w := fun op a b w => eqlAtI.2 op a b l[k]! x w
      by_cases he : l[k]! = x
      · have hmem : x ∈ l := by rw [← he, getElem!_pos l k (by omega)]; exact List.getElem_mem _
        rw [decide_eq_true he] at heq
        have HM := Lib.hid hmem
        have C1 := Lib.hid c1
        have I1 := Lib.hid i1
        clear he hall ct hmem
        generalize encI l[k]! = cs at C1 I1 heq hgu
        clear c1 i1
        go_upto_region 4 with fail
        refine wp_region_quiet_lit (by kernel_rfl) (by kernel_rfl) ?_
        repeat (go_big_quiet_step (fail))
        refine wpQuiet_loadA (by rfl) 25 (.tmp 14) rfl ⟨b, o + k * 32, none⟩ rfl cs 32 5 Tryz.underlying25 I1.out (fun w ⟨m, hw⟩ => by subst hw; exact C1.out) ?_
        refine wpQuiet_loadA (by rfl) 25 (.tmp 3) rfl ⟨g, 0, none⟩ rfl (encI x) 32 5 Tryz.underlying25 LX.out (fun w ⟨m, hw⟩ j v hv => by subst hw; rw [add_row _ rfl, Nat.zero_add]; exact HX.out.cell j v hv) ?_
        quiet_step (fail)
        refine wpQuiet_nil ?_
        rintro _ ⟨n9, rfl⟩
        go_wp2
        go_ret
        exact ⟨by rw [decide_eq_true HM.out]; rfl, below_drewN' (below_drewN' HB.out _) _⟩
      · have hall' : ∀ j, j < k + 1 → l[j]! ≠ x := fun j hj => by
          rcases Nat.lt_or_ge j k with h | h
          · exact hall j h
          · rw [show j = k by omega]; exact he
        rw [decide_eq_false he] at heq
        have HA := Lib.hid hall'
        have C1 := Lib.hid c1
        have I1 := Lib.hid i1
        clear he hall ct hall'
        generalize encI l[k]! = cs at C1 I1 heq hgu
        clear c1 i1
        go_upto_region 4 with fail
        refine wp_region_quiet_lit (by kernel_rfl) (by kernel_rfl) ?_
        repeat (go_big_quiet_step (fail))
        refine wpQuiet_loadA (by rfl) 25 (.tmp 14) rfl ⟨b, o + k * 32, none⟩ rfl cs 32 5 Tryz.underlying25 I1.out (fun w ⟨m, hw⟩ => by subst hw; exact C1.out) ?_
        refine wpQuiet_loadA (by rfl) 25 (.tmp 3) rfl ⟨g, 0, none⟩ rfl (encI x) 32 5 Tryz.underlying25 LX.out (fun w ⟨m, hw⟩ j v hv => by subst hw; rw [add_row _ rfl, Nat.zero_add]; exact HX.out.cell j v hv) ?_
        quiet_step (fail)
        refine wpQuiet_nil ?_
        rintro _ ⟨n9, rfl⟩
        go_wp2
        go_roundw
        case measure => simp [intOf]; omega
        case rel => exact ⟨k + 1, q + n9, by omega, by go_num, by simp, HA.out⟩
    · have : k = n := by omega
      subst this
      have hno : ¬ x ∈ l := fun hm => by
        obtain ⟨j, hj, e⟩ := List.getElem_of_mem hm
        exact hall j (by have := LN.out; omega) (by rw [getElem!_pos l j hj]; exact e)
      have HM := Lib.hid hno
      clear hall hno
      go_wp2
      go_ret
      exact ⟨by rw [decide_eq_false HM.out]; rfl, below_drewN' HB.out _⟩
end Go.Proofs.YticcianbphljpaaGreatDoor
namespace Go.Proofs.YticcianbphljpaaGreatDoor
open Go.RowKit
theorem ids_ext {l r : List Idt} (hl : l.length = r.length) (h : ∀ j, j < l.length → l[j]! = r[j]!) : l = r := by
  apply List.ext_getElem hl
  intro j h1 h2
  have := h j h1
  rwa [getElem!_pos l j h1, getElem!_pos r j h2] at this
set_option maxHeartbeats 3200000 in
theorem ieq_any (W : World) (A B : Option Addr) (n m c d : Nat) (l r : List Idt) (ha : Src W 32 A n (rowI l)) (hb : Src W 32 B m (rowI r)) (hn : n ≤ 1099511627776) (hm : m ≤ 1099511627776) :
    Calls Tryz.prog 22 #[.slice A n c, .slice B m d] W fun e W' => e = .returned (.bool (decide (l = r))) ∧ ∃ q, W' = W.drewN q := by
  have hln := src_len ha
  have hlm := src_len hb
  by_cases hnm : n = m
  · subst hnm
    have HA := Lib.hid ha
    have HB := Lib.hid hb
    have HLN := Lib.hid hln
    have HLM := Lib.hid hlm
    clear ha hb hln hlm hm
    go_enter Tryz.func22, Tryz.ntmps22
    go_wp2
    go_loopw [5] (fun i wr => ∃ k q : Nat, k ≤ n ∧ i = .int .i64 k ∧ wr = W.drewN q ∧ ∀ j, j < k → l[j]! = r[j]!) (fun i _ => n - (intOf i).toNat)
    case atStart => exact ⟨0, 0, by omega, rfl, rfl, fun j h => by omega⟩
    case round =>
      obtain ⟨k, q, hk, rfl, rfl, hall⟩ := hrel
      by_cases hlt : k < n
      · obtain ⟨hl, ba, oa, rfl, ca⟩ := src_names HA.out (by omega)
        obtain ⟨_, bb, ob, rfl, cb⟩ := src_names HB.out (by omega)
        have ca1 := at_name (ca k hlt)
        have cb1 := at_name (cb k hlt)
        have hin := infoI l[k]!
        have hin2 := infoI r[k]!
        have hle : (encI l[k]!).length = 32 := encI_len _
        have hre : (encI r[k]!).length = 32 := encI_len _
        have hgu : ∀ op a b w, (eqGuard op 25 a b (.agg (encI l[k]!).toArray) (.agg (encI r[k]!).toArray)).run Tryz.prog w = .ok () w := fun op a b w => neqAtI.2 op a b l[k]! r[k]! w
        have k1 : (k : Int) < (n : Int) := by omega
        have k2 : (n : Int) ≤ 1099511627776 := by omega
        have HALL := Lib.hid hall
        by_cases hne : l[k]! = r[k]!
        · have heq : ∀ w, (binOp .neq 25 (.agg (encI l[k]!).toArray) (.agg (encI r[k]!).toArray)).run Tryz.prog w = .ok (.bool false) w := fun w => by
            have h := neqAtI.1 l[k]! r[k]! w
            have e : (!decide (l[k]! = r[k]!)) = false := by rw [decide_eq_true hne]; rfl
            exact h.trans (congrArg (fun z => Result.ok (Value.bool z) w) e)
          have hnext : ∀ j, j < k + 1 → l[j]! = r[j]! := fun j hj => by
            rcases Nat.lt_or_ge j k with h | h
            · exact hall j h
            · rw [show j = k by omega]; exact hne
          have HNX := Lib.hid hnext
          clear hnext hne hall
          generalize encI l[k]! = cs at ca1 hin heq hgu hle
          generalize encI r[k]! = cs2 at cb1 hin2 heq hgu hre
          have CA := Lib.hid ca1
          have CB := Lib.hid cb1
          have HI := Lib.hid hin
          have HI2 := Lib.hid hin2
          have HL := Lib.hid hlt
          clear ca cb ca1 cb1 HA HB hl hin hin2 hn hk hle hre
          go_wp2
          refine wp_region_quiet_lit (by kernel_rfl) (by kernel_rfl) ?_
          repeat (go_big_quiet_step (fail))
          refine wpQuiet_loadA (by rfl) 25 (.tmp 19) rfl ⟨ba, oa + k * 32, none⟩ rfl cs 32 5 Tryz.underlying25 HI.out (fun w ⟨m, hw⟩ => by subst hw; exact CA.out) ?_
          quiet_step (fail)
          repeat (go_big_quiet_step (fail))
          refine wpQuiet_loadA (by rfl) 25 (.tmp 23) rfl ⟨bb, ob + k * 32, none⟩ rfl cs2 32 5 Tryz.underlying25 HI2.out (fun w ⟨m, hw⟩ => by subst hw; exact CB.out) ?_
          quiet_step (fail)
          refine wpQuiet_nil ?_
          rintro _ ⟨n9, rfl⟩
          go_wp2
          go_roundw
          case measure => simp [intOf]; have := HL.out; omega
          case rel => exact ⟨k + 1, q + n9, by have := HL.out; omega, by go_num, by simp, HNX.out⟩
        · have heq : ∀ w, (binOp .neq 25 (.agg (encI l[k]!).toArray) (.agg (encI r[k]!).toArray)).run Tryz.prog w = .ok (.bool true) w := fun w => by
            have h := neqAtI.1 l[k]! r[k]! w
            have e : (!decide (l[k]! = r[k]!)) = true := by rw [decide_eq_false hne]; rfl
            exact h.trans (congrArg (fun z => Result.ok (Value.bool z) w) e)
          have hlr : decide (l = r) = false := decide_eq_false (fun e => hne (by rw [e]))
          have HLR := Lib.hid hlr
          clear hlr hne hall HALL
          generalize encI l[k]! = cs at ca1 hin heq hgu hle
          generalize encI r[k]! = cs2 at cb1 hin2 heq hgu hre
          have CA := Lib.hid ca1
          have CB := Lib.hid cb1
          have HI := Lib.hid hin
          have HI2 := Lib.hid hin2
          clear ca cb ca1 cb1 HA HB hl hin hin2 hn hk hle hre hlt
          go_wp2
          refine wp_region_quiet_lit (by kernel_rfl) (by kernel_rfl) ?_
          repeat (go_big_quiet_step (fail))
          refine wpQuiet_loadA (by rfl) 25 (.tmp 19) rfl ⟨ba, oa + k * 32, none⟩ rfl cs 32 5 Tryz.underlying25 HI.out (fun w ⟨m, hw⟩ => by subst hw; exact CA.out) ?_
          quiet_step (fail)
          repeat (go_big_quiet_step (fail))
          refine wpQuiet_loadA (by rfl) 25 (.tmp 23) rfl ⟨bb, ob + k * 32, none⟩ rfl cs2 32 5 Tryz.underlying25 HI2.out (fun w ⟨m, hw⟩ => by subst hw; exact CB.out) ?_
          quiet_step (fail)
          refine wpQuiet_nil ?_
          rintro _ ⟨n9, rfl⟩
          go_wp2
          go_ret
          exact ⟨by rw [HLR.out]; rfl, q + n9, by simp⟩
      · have : k = n := by omega
        subst this
        have hlr : decide (l = r) = true := decide_eq_true (ids_ext (by rw [HLN.out, HLM.out]) (fun j hj => hall j (by rw [HLN.out] at hj; exact hj)))
        have HLR := Lib.hid hlr
        clear hlr hall
        go_wp2
        go_ret
        exact ⟨by rw [HLR.out]; rfl, q, rfl⟩
  · have hlr : decide (l = r) = false := decide_eq_false (fun e => hnm (by rw [← hln, ← hlm, e]))
    rw [hlr]
    have h1 : ((n : Int) != (m : Int)) = true := by simp; omega
    clear ha hb hln hlm hlr hnm hn hm
    go_enter Tryz.func22, Tryz.ntmps22
    go_wp2
    go_ret
    exact ⟨rfl, 0, rfl⟩
end Go.Proofs.YticcianbphljpaaGreatDoor
namespace Go.Proofs.YticcianbphljpaaGreatDoor
open Go.RowKit Go.Sort
theorem run_upto (w : World) (A : Option Addr) (m c k : Nat) (hk : k ≤ c) :
    (Instr.sliceAt 31 (.slice A m c) none (some (.int .i64 k)) none).run Tryz.prog w = .ok (.slice A k c) w := by
  simp [Instr.sliceAt, Instr.slice, Instr.sliceBounds, Instr.sliceBound, go_sem]
  exact fun h => absurd h (by omega)
theorem run_from (w : World) (A : Option Addr) (m c k : Nat) (hk : k ≤ m) (_hc : m ≤ c) :
    (Instr.sliceAt 31 (.slice A m c) (some (.int .i64 k)) none none).run Tryz.prog w = .ok (.slice (if c = k then A else A.map (·.add (k * 32))) (m - k) (c - k)) w := by
  simp [Instr.sliceAt, Instr.slice, Instr.sliceBounds, Instr.sliceBound, go_sem]
  exact fun h => absurd h (by omega)
theorem RowQ.midI {w : World} {base : Nat} {A : Option Addr} {n c : Nat} {l : List Idt} (h : RowQ w base 25 32 (.slice A n c) n (rowI l)) (k : Nat) (hk : k ≤ n) :
    Src w 32 (if c = k then A else A.map (·.add (k * 32))) (n - k) (rowI (l.drop k)) := by
  have hl : l.length = n := by have := h.1; rw [rowI_len] at this; omega
  refine ⟨by rw [rowI_len, List.length_drop, hl], fun h0 => ?_, rowI_one _⟩
  have hs := h.src (rowI_one _)
  obtain ⟨b, o, rfl, hc⟩ := (src_names hs (by omega)).2
  have hck : c ≠ k := by
    obtain ⟨A1, c1, e, h1, _⟩ := h.shape
    injection e with _ _ e
    omega
  rw [if_neg hck]
  refine ⟨_, rfl, fun j u hu => ?_⟩
  have hj : j < (n - k) * 32 := by
    have := (List.getElem?_eq_some_iff.1 hu).1
    rwa [rowI_len, List.length_drop, hl] at this
  have e1 : rowI l = rowI (l.take k) ++ rowI (l.drop k) := by rw [← rowI_append, List.take_append_drop]
  have e2 : (rowI l)[k * 32 + j]? = some u := by
    rw [e1, List.getElem?_append_right (by rw [rowI_len, List.length_take]; omega), rowI_len, List.length_take, show k * 32 + j - min k l.length * 32 = j by rw [Nat.min_eq_left (by omega)]; omega]
    exact hu
  obtain ⟨ad, ha, hx⟩ := hs.2.1 (by omega)
  obtain rfl := Option.some.inj ha
  have := hx _ _ e2
  rw [add_row _ rfl] at this
  show w.cell? (((⟨b, o, none⟩ : Addr).add (k * 32)).add j) = some u
  rw [add_row ⟨b, o, none⟩ rfl, add_row _ rfl]
  simpa [Nat.add_assoc] using this
/-- The names put in so far. -/
def OutI (W : World) (l : List Idt) (i : Nat) (v : Value) (wr : World) : Prop := RowQ wr W.heap.size 25 32 v (putI (l.take i)).length (rowI (putI (l.take i))) ∧ Below W.heap.size W wr
theorem putI_next (l : List Idt) (i k : Nat) (hi : i < l.length) (hk : k ≤ (putI (l.take i)).length) (h1 : ∀ j, j < k → ilt (putI (l.take i))[j]! l[i]! = true) (h2 : k < (putI (l.take i)).length → ilt (putI (l.take i))[k]! l[i]! = false) :
    putI (l.take (i + 1)) = if k < (putI (l.take i)).length ∧ (putI (l.take i))[k]! = l[i]! then putI (l.take i) else (putI (l.take i)).take k ++ [l[i]!] ++ (putI (l.take i)).drop k := by
  have e : l.take (i + 1) = l.take i ++ [l[i]!] := by
    rw [List.take_add_one, getElem!_pos l i hi]
    simp [hi]
  rw [e, putI_snoc]
  exact insI_at _ _ k hk h1 h2
theorem putI_len (l : List Idt) (i : Nat) : (putI (l.take i)).length ≤ l.length := by
  rw [putI_eq]
  have := sortI_len (l.take i)
  rw [List.length_take] at this
  omega
/-- A name read, as one step of a region that draws. -/
theorem step_loadA {P : Program} {ops : Array Oper} {o : Oper} {a : Act} {w : World} {K : Act → World → Prop} {Q : Exit → Act → World → Prop} {E : Prop} (hgd : Region.wanted o (yielded ops a.tmps) = true) (ty : TypeId) (x : Operand) (ho : o.op = .load ty x) (ad : Addr) (hx : a.eval x = .pointer (some ad)) (cs : List Value)
    (n : Nat) (e : TypeId) (hu : P.underlying ty = some (.array n e)) (hi : (P.info? ty).map (·.size) = some cs.length) (hc : ∀ j v, cs[j]? = some v → w.cell? (ad.add j) = some v) (h : K (a.put o.dst (.agg cs.toArray)) w) :
    if Region.wanted o (yielded ops a.tmps) = true then Oper.wp P o a w K Q else E := by
  rw [if_pos hgd]
  unfold Oper.wp execOp
  simp only [ho, hx, Sem.run_bind, Sem.run_pure, Result.andThen_ok, run_loadA w ty ad cs n e hu hi hc]
  exact h
theorem fold_set (l : List Value) : ∀ (s : Nat) (cs : Array Value), s + l.length = cs.size → (l.zipIdx s).foldl (fun cs (x : Value × Nat) => cs.setIfInBounds (0 * 32 + x.2) x.1) cs = (cs.toList.take s ++ l).toArray := by
  induction l with
  | nil =>
    intro s cs h
    simp at h
    rw [h, List.take_of_length_le (by simp)]
    simp
  | cons v r ih =>
    intro s cs h
    simp only [List.length_cons] at h
    rw [List.zipIdx_cons, List.foldl_cons, ih (s + 1) _ (by simp; omega)]
    congr 1
    have hs : s < cs.toList.length := by simp; omega
    simp only [Nat.zero_mul, Nat.zero_add, Array.toList_setIfInBounds]
    rw [List.take_add_one, List.getElem?_set_self hs, List.take_set_of_le (Nat.le_refl s)]
    simp
/-- A slice of one name. -/
theorem step_buildI {ops : Array Oper} {o : Oper} {a : Act} {w : World} {K : Act → World → Prop} {Q : Exit → Act → World → Prop} {E : Prop} (hgd : Region.wanted o (yielded ops a.tmps) = true) (X : Operand) (ho : o.op = .buildSlice 31 1 #[(0, X)]) (cx : List Value) (hx : a.eval X = .agg cx.toArray) (hl : cx.length = 32)
    (h : K (a.put o.dst (.slice (some ⟨w.heap.size, 0, none⟩) 1 1)) (w.alloc (.cells cx.toArray 25))) : if Region.wanted o (yielded ops a.tmps) = true then Oper.wp Tryz.prog o a w K Q else E := by
  rw [if_pos hgd]
  obtain ⟨ie, hi, hzz⟩ := Option.map_eq_some_iff.1 Tryz.infoIdz
  simp only [Prod.mk.injEq] at hzz
  obtain ⟨hz, hs, _⟩ := hzz
  refine wp_buildSlice 31 25 1 #[(0, X)] ho cx.toArray ie _ Tryz.underlying31 hi hz (by rw [hs]; decide) (by rw [hs]; decide) ?_ h
  rw [hs]
  simp only [List.map_toArray, List.map_cons, List.map_nil, hx, Instr.fill]
  have hc : (Value.agg cx.toArray).cells = cx.toArray := rfl
  rw [hc, if_neg (by simp [hl])]
  rw [← Array.foldl_toList, Array.toList_zipIdx]
  have := fold_set cx 0 ((Array.range (1 * 32)).map ((Value.agg zero32.toArray).cells[· % (Value.agg zero32.toArray).cells.size]!)) (by simp [hl])
  simpa using this
/-- The names ahead, in a row of their own; the one that is put in, in a block of its own. -/
structure Thr (B : Nat) (w0 w3 : World) (out : List Idt) (k : Nat) (x : Idt) (v1 : Value) (g : Nat) : Prop where
  row : RowQ w3 B 25 32 v1 k (rowI (out.take k))
  own : ∀ b, v1.ownBlock = some b → w0.heap.size ≤ b ∧ b < w3.heap.size
  src : Src w3 32 (some ⟨g, 0, none⟩) 1 (rowI [x])
  low : Below w0.heap.size w0 w3
theorem box_src (w : World) (x : Idt) : Src (w.alloc (.cells (encI x).toArray 25)) 32 (some ⟨w.heap.size, 0, none⟩) 1 (rowI [x]) := by
  have e : rowI [x] = encI x := by simp [rowI]
  rw [e]
  refine ⟨by rw [encI_len], fun _ => ⟨_, rfl, fun j u hu => ?_⟩, encI_one x⟩
  rw [add_row _ rfl, Nat.zero_add]
  exact (Blk.new w _ _).cell j u hu
theorem thr_a {B : Nat} {w0 w1 : World} {out : List Idt} {k : Nat} {x : Idt} {v1 : Value} (hr : RowQ w1 B 25 32 v1 k (rowI (out.take k))) (hg : w0.grownBy w1 none) (ha : v1.ownBlock = none ∨ v1.ownBlock = some w0.heap.size) :
    Thr B w0 (w1.alloc (.cells (encI x).toArray 25)) out k x v1 w1.heap.size := by
  have hl : Below w0.heap.size w0 w1 := (Below.refl _ _).grown hg (Nat.le_refl _) (fun k e => by cases e)
  refine ⟨hr.alloc _, fun b hb => ?_, box_src w1 x, hl.alloc hl.size _⟩
  have h2 := (hr.lt b hb).2
  have h3 := hsz w1 (.cells (encI x).toArray 25)
  rcases ha with h | h
  · rw [h] at hb; cases hb
  · rw [h] at hb; injection hb with hb; omega
theorem thr_b {B : Nat} {w0 w2 : World} {out : List Idt} {k : Nat} {x : Idt} {v1 : Value} (hr : RowQ w2 B 25 32 v1 k (rowI (out.take k))) (hg : (w0.alloc (.cells (encI x).toArray 25)).grownBy w2 none)
    (ha : v1.ownBlock = none ∨ v1.ownBlock = some (w0.alloc (.cells (encI x).toArray 25)).heap.size) : Thr B w0 w2 out k x v1 w0.heap.size := by
  have h3 := hsz w0 (.cells (encI x).toArray 25)
  have hl : Below w0.heap.size w0 w2 := ((Below.refl _ _).alloc (Nat.le_refl _) _).grown hg (by omega) (fun k e => by cases e)
  refine ⟨hr, fun b hb => ?_, ?_, hl⟩
  · have h2 := (hr.lt b hb).2
    rcases ha with h | h
    · rw [h] at hb; cases hb
    · rw [h] at hb; injection hb with hb; omega
  · exact (box_src w0 x).far fun ad e _ => by
      obtain rfl := Option.some.inj e
      exact hg.block _ (by show w0.heap.size < _; omega) (fun e => by cases e)
/-- The three rows, one behind the other. -/
theorem thr_end {B : Nat} {W w0 w3 w4 w5 : World} {out : List Idt} {k : Nat} {x : Idt} {v1 v2 : Value} {g : Nat} (h : Thr B w0 w3 out k x v1 g) (hW : Below W.heap.size W w0) (h4 : w3.grownBy w4 v1.ownBlock) (a4 : v2.ownBlock = v1.ownBlock ∨ v2.ownBlock = some w3.heap.size)
    (h5 : w4.grownBy w5 v2.ownBlock) : Below W.heap.size W w5 := by
  have s0 := hW.size
  have s3 := h.low.size
  have l3 := hW.trans (h.low.mono s0)
  have l4 : Below W.heap.size W w4 := l3.grown h4 (by omega) (fun b hb => by have := h.own b hb; omega)
  refine l4.grown h5 (by have := h4.size; omega) (fun b hb => ?_)
  rcases a4 with e | e
  · rw [e] at hb; have := h.own b hb; omega
  · rw [e] at hb; injection hb with hb; omega
theorem thr_out {B : Nat} {w0 w3 w4 : World} {out : List Idt} {k m c : Nat} {x : Idt} {v1 : Value} {g : Nat} {A : Option Addr} (h : Thr B w0 w3 out k x v1 g) (h4 : w3.grownBy w4 v1.ownBlock) (hr : RowQ w0 B 25 32 (.slice A m c) m (rowI out)) :
    RowQ w4 B 25 32 (.slice A m c) m (rowI out) :=
  hr.of_block fun b hb => (h4.block b (by have := (hr.lt b hb).2; have := h.low.size; omega) (fun e => by have := (hr.lt b hb).2; have := h.own b e.symm; omega)).trans (h.low.block b (hr.lt b hb).2)
set_option maxRecDepth 20000 in
set_option maxHeartbeats 8000000 in
theorem rsort_any (W : World) (A : Option Addr) (n c : Nat) (l : List Idt) (hs : Src W 32 A n (rowI l)) (hn : n ≤ 1048576) : Calls Tryz.prog 19 #[.slice A n c] W (IdsPost W (sortI l)) := by
  rw [← putI_eq]
  have S0 := Lib.hid hs
  have LN := Lib.hid (src_len hs)
  have n9 : (n : Int) ≤ 1048576 := by omega
  have HN := Lib.hid hn
  clear hs hn
  go_enter Tryz.func19, Tryz.ntmps19
  go_wp2
  go_loopw [3, 4] (fun v i wr => ∃ k : Nat, k ≤ n ∧ i = .int .i64 k ∧ OutI W l k v wr) (fun _ i _ => n - (intOf i).toNat)
  case atStart => exact ⟨0, by omega, rfl, RowQ.nil _ _ _ _, Below.refl _ _⟩
  case round =>
    obtain ⟨wo, hwo⟩ : ∃ wo, wo = wr := ⟨_, rfl⟩
    subst hwo
    obtain ⟨i, hi, rfl, hr, hb⟩ := hrel
    by_cases hlt : i < n
    · obtain ⟨A1, c1, rfl, hc1, hm1⟩ := hr.shape
      have hln := LN.out
      have hpl := putI_len l i
      obtain ⟨hl, bl, ol, rfl, _⟩ := src_names S0.out (by omega)
      have SL : ∀ w, Below W.heap.size W w → ∀ j v, (encI l[i]!)[j]? = some v → w.cell? ((⟨bl, ol + i * 32, none⟩ : Addr).add j) = some v := fun w hw => by
        obtain ⟨_, b3, o3, e3, ct3⟩ := src_names (srcI_below S0.out hw) (by omega)
        injection e3 with e3
        injection e3 with e4 e5 _
        subst e4; subst e5
        exact at_name (ct3 i hlt)
      have NXT := Lib.hid (fun k => putI_next l i k (by omega))
      obtain ⟨out, hout⟩ : ∃ out, out = putI (l.take i) := ⟨_, rfl⟩
      obtain ⟨m, hm⟩ : ∃ m, m = out.length := ⟨_, rfl⟩
      rw [← hout, ← hm] at hr hc1 hpl
      simp only [← hout, ← hm] at NXT ⊢
      have HR := Lib.hid hr
      have HB := Lib.hid hb
      have HSL := Lib.hid SL
      have m0 : m ≤ 1048576 := by have := HN.out; omega
      have mi : (m : Int) ≤ 1048576 := by omega
      have i1 : (i : Int) < (n : Int) := by omega
      have M0 := Lib.hid m0
      have HI := Lib.hid hlt
      have HM := Lib.hid hm
      have HC := Lib.hid hc1
      have HMX := Lib.hid hm1
      generalize l[i]! = x at HSL NXT
      clear hr hb SL hout hpl hln hi hlt hm m0 hc1 hm1
      go_upto_block 2 with fail
      go_cut [5] (fun kv wx => ∃ k : Nat, k ≤ m ∧ kv = .int .i64 k ∧ Below wo.heap.size wo wx ∧ (∀ j, j < k → ilt out[j]! x = true) ∧ (k < m → ilt out[k]! x = false))
      case first =>
        go_wp2_with fail
        go_loopw [5] (fun kv wr => ∃ k : Nat, k ≤ m ∧ kv = .int .i64 k ∧ Below wo.heap.size wo wr ∧ ∀ j, j < k → ilt out[j]! x = true) (fun kv _ => m - (intOf kv).toNat)
        case atStart => exact ⟨0, by omega, rfl, Below.refl _ _, fun j h => by omega⟩
        case round =>
          obtain ⟨k, hk, rfl, hbi, hall⟩ := hrel
          have BI := Lib.hid hbi
          have SR := Lib.hid (fun w (hw : Below wr.heap.size wr w) => (show Below W.heap.size W w from (HB.out.trans (BI.out.mono HB.out.size)).trans (hw.mono (by have := HB.out.size; have := BI.out.size; omega))))
          have hemp := ext_nonempty wr
          by_cases hlt : k < m
          · have k1 : (k : Int) < (m : Int) := by omega
            obtain ⟨_, b1, o1, rfl, _⟩ := src_names (HR.out.src (rowI_one _)) (by omega)
            have cO : ∀ w', (∃ s : Ext wr, w' = s.at_) → ∀ j v, (encI out[k]!)[j]? = some v → w'.cell? ((⟨b1, o1 + k * 32, none⟩ : Addr).add j) = some v := fun w' ⟨s, hw⟩ => by
              subst hw
              obtain ⟨_, b3, o3, e3, ct3⟩ := src_names (srcI_below (HR.out.src (rowI_one _)) (BI.out.trans (s.below.mono BI.out.size))) (by omega)
              injection e3 with e3
              injection e3 with e4 e5 _
              subst e4; subst e5
              exact at_name (ct3 k hlt)
            have cX : ∀ w', (∃ s : Ext wr, w' = s.at_) → ∀ j v, (encI x)[j]? = some v → w'.cell? ((⟨bl, ol + i * 32, none⟩ : Addr).add j) = some v := fun w' ⟨s, hw⟩ => by
              subst hw
              exact HSL.out _ (SR.out _ s.below)
            have cL := fun w => lessId_any w out[k]! x
            have i1' := infoI out[k]!
            have i2' := infoI x
            have HA := Lib.hid hall
            obtain ⟨b, hb⟩ : ∃ b, b = ilt out[k]! x := ⟨_, rfl⟩
            rw [← hb] at cL
            have HBB := Lib.hid hb
            have CO := Lib.hid cO
            have CX := Lib.hid cX
            have CL := Lib.hid cL
            have I1 := Lib.hid i1'
            have I2 := Lib.hid i2'
            have HK := Lib.hid hlt
            clear cO cX cL i1' i2' hall hb hlt hk hbi
            generalize encI out[k]! = cs at CO CL I1
            generalize encI x = cx at CX CL I2
            go_upto_region 6 with fail
            refine wp_region_ext (by kernel_rfl) (by kernel_rfl) ?_
            repeat (go_big_quiet_step (fail))
            refine wpQuiet_loadA (by rfl) 25 (.tmp 19) rfl ⟨b1, o1 + k * 32, none⟩ rfl cs 32 5 Tryz.underlying25 I1.out CO.out ?_
            quiet_step (fail)
            repeat (go_big_quiet_step (fail))
            refine wpQuiet_loadA (by rfl) 25 (.tmp 23) rfl ⟨bl, ol + i * 32, none⟩ rfl cx 32 5 Tryz.underlying25 I2.out CX.out ?_
            quiet_step ((go_at_call 53; exact Ext.call (CL.out _)))
            repeat (go_big_quiet_step (fail))
            refine wpQuiet_nil ?_
            rintro _ ⟨s9, rfl⟩
            cases b
            · go_wp2
              go_meet
              exact ⟨k, by have := HK.out; omega, rfl, BI.out.trans (s9.below.mono BI.out.size), HA.out, fun _ => HBB.out.symm⟩
            · go_wp2
              go_roundw
              case measure => simp [intOf]; have := HK.out; omega
              case rel => exact ⟨k + 1, by have := HK.out; omega, by go_num, BI.out.trans (s9.below.mono BI.out.size), fun j hj => by
                rcases Nat.lt_or_ge j k with h | h
                · exact HA.out j h
                · rw [show j = k by omega]; exact HBB.out.symm⟩
          · have : k = m := by omega
            subst this
            have HA := Lib.hid hall
            clear hall hlt hbi
            go_upto_region 6 with fail
            refine wp_region_ext (by kernel_rfl) (by kernel_rfl) ?_
            repeat (go_big_quiet_step (fail))
            refine wpQuiet_nil ?_
            rintro _ ⟨s9, rfl⟩
            go_wp2
            go_meet
            exact ⟨k, Nat.le_refl _, rfl, BI.out.trans (s9.below.mono BI.out.size), HA.out, fun h => absurd h (Nat.lt_irrefl _)⟩
      case rest =>
        obtain ⟨k, hk, rfl, hbi, hall, hge⟩ := hcut
        have NX := Lib.hid (NXT.out k hk hall hge)
        have BI := Lib.hid hbi
        have HK := Lib.hid hk
        clear hall hge hbi hk
        go_upto_region 8 with fail
        go_cut [43] (fun cv wx => cv = .bool (!decide (k < m ∧ out[k]! = x)) ∧ Below wo.heap.size wo wx)
        case first =>
          by_cases hlt : k < m
          · have k1 : ¬ (k : Int) = (m : Int) := by omega
            have k2 : (k : Int) < (m : Int) := by omega
            have k3 : ((k : Int) == (m : Int)) = false := by simpa using k1
            obtain ⟨_, b1, o1, rfl, _⟩ := src_names (HR.out.src (rowI_one _)) (by omega)
            have cO : ∀ w', (∃ s : Ext wc, w' = s.at_) → ∀ j v, (encI out[k]!)[j]? = some v → w'.cell? ((⟨b1, o1 + k * 32, none⟩ : Addr).add j) = some v := fun w' ⟨s, hw⟩ => by
              subst hw
              obtain ⟨_, b3, o3, e3, ct3⟩ := src_names (srcI_below (HR.out.src (rowI_one _)) (BI.out.trans (s.below.mono BI.out.size))) (by omega)
              injection e3 with e3
              injection e3 with e4 e5 _
              subst e4; subst e5
              exact at_name (ct3 k hlt)
            have cX : ∀ w', (∃ s : Ext wc, w' = s.at_) → ∀ j v, (encI x)[j]? = some v → w'.cell? ((⟨bl, ol + i * 32, none⟩ : Addr).add j) = some v := fun w' ⟨s, hw⟩ => by
              subst hw
              exact HSL.out _ ((HB.out.trans (BI.out.mono HB.out.size)).trans (s.below.mono (by have := HB.out.size; have := BI.out.size; omega)))
            have hne : ∀ w, (binOp .neq 25 (.agg (encI out[k]!).toArray) (.agg (encI x).toArray)).run Tryz.prog w = .ok (.bool (!decide (out[k]! = x))) w := fun w => neqAtI.1 out[k]! x w
            have hgu : ∀ op a b w, (eqGuard op 25 a b (.agg (encI out[k]!).toArray) (.agg (encI x).toArray)).run Tryz.prog w = .ok () w := fun op a b w => neqAtI.2 op a b out[k]! x w
            have i1' := infoI out[k]!
            have i2' := infoI x
            have hd : decide (k < m ∧ out[k]! = x) = decide (out[k]! = x) := by
              by_cases h : out[k]! = x
              · rw [decide_eq_true h, decide_eq_true ⟨hlt, h⟩]
              · rw [decide_eq_false h, decide_eq_false (fun hh => h hh.2)]
            obtain ⟨q, hq⟩ : ∃ q, q = !decide (out[k]! = x) := ⟨_, rfl⟩
            rw [← hq] at hne
            rw [← hd] at hq
            have HQ := Lib.hid hq
            have CO := Lib.hid cO
            have CX := Lib.hid cX
            have I1 := Lib.hid i1'
            have I2 := Lib.hid i2'
            clear cO cX i1' i2' hd hlt hq
            generalize encI out[k]! = cs at CO I1 hne hgu
            generalize encI x = cx at CX I2 hne hgu
            have hemp := ext_nonempty wc
            refine wp_region_ext (by kernel_rfl) (by kernel_rfl) ?_
            repeat (go_big_quiet_step (fail))
            refine wpQuiet_loadA (by rfl) 25 (.tmp 36) rfl ⟨b1, o1 + k * 32, none⟩ rfl cs 32 5 Tryz.underlying25 I1.out CO.out ?_
            quiet_step (fail)
            repeat (go_big_quiet_step (fail))
            refine wpQuiet_loadA (by rfl) 25 (.tmp 40) rfl ⟨bl, ol + i * 32, none⟩ rfl cx 32 5 Tryz.underlying25 I2.out CX.out ?_
            quiet_step (fail)
            repeat (go_big_quiet_step (fail))
            refine wpQuiet_nil ?_
            rintro _ ⟨s9, rfl⟩
            go_wp2
            go_meet
            exact ⟨congrArg Value.bool HQ.out, BI.out.trans (s9.below.mono BI.out.size)⟩
          · have : k = m := by have := HK.out; omega
            subst this
            have hd : decide (k < k ∧ out[k]! = x) = false := decide_eq_false (fun h => absurd h.1 (Nat.lt_irrefl _))
            have HD := Lib.hid hd
            clear hlt hd
            have hemp := ext_nonempty wc
            refine wp_region_ext (by kernel_rfl) (by kernel_rfl) ?_
            repeat (go_big_quiet_step (fail))
            refine wpQuiet_nil ?_
            rintro _ ⟨s9, rfl⟩
            go_wp2
            go_meet
            exact ⟨by rw [HD.out]; rfl, BI.out.trans (s9.below.mono BI.out.size)⟩
        case rest =>
          obtain ⟨rfl, hbi⟩ := hcut
          clear BI
          have BI := Lib.hid hbi
          clear hbi
          by_cases hd : k < m ∧ out[k]! = x
          · have NY : putI (l.take (i + 1)) = out := by rw [NX.out, if_pos hd]
            have HY := Lib.hid NY
            rw [decide_eq_true hd]
            clear hd NY
            go_wp2
            go_roundw
            case measure => simp [intOf]; have := HI.out; omega
            case rel =>
              refine ⟨i + 1, by have := HI.out; omega, by go_num, ?_⟩
              unfold OutI
              rw [HY.out, ← HM.out]
              exact ⟨HR.out.below (BI.out.mono (Nat.le_refl _)), HB.out.trans (BI.out.mono HB.out.size)⟩
          · have NY : putI (l.take (i + 1)) = out.take k ++ [x] ++ out.drop k := by rw [NX.out, if_neg hd]
            have HY := Lib.hid NY
            rw [decide_eq_false hd]
            clear hd NY
            go_upto_region 9 with fail
            refine wp_region_any (by kernel_rfl) ?_
            change wpAny _ _ _ _ _ _ _ (World.drew _)
            have BD := Lib.hid BI.out.drew
            generalize World.drew wc = v0 at BD ⊢
            have sl1 := fun w => run_upto w A1 m c1 k (by have := HC.out; have := HK.out; omega)
            have sl2 := fun w => run_from w A1 m c1 k HK.out HC.out
            refine wpAny_bare [0, 1, 2, 4, 5, 6, 10, 11, 12] 6 (by rfl) (by kernel_rfl) (fun _ _ _ d _ h => by cases d <;> exact h) ?_
            simp only [bareO, List.filterMap_cons, List.filterMap_nil, List.getElem?_toArray, List.getElem?_cons_succ, List.getElem?_cons_zero]
            repeat (first | quiet_step (fail) | go_big_quiet_step (fail))
            refine wpQuiet_nil ?_
            have R0 := Lib.hid (HR.out.below BD.out)
            have LW := Lib.hid (HB.out.trans (BD.out.mono HB.out.size))
            have I2 := Lib.hid (infoI x)
            obtain ⟨cx, hcx⟩ : ∃ cx, cx = encI x := ⟨_, rfl⟩
            have HCX := Lib.hid hcx
            rw [← hcx] at I2
            clear sl1 sl2 hcx
            refine wpAny_ready (rs := [3, 7]) (by kernel_rfl) (by simp) ?_
            have LX := Lib.hid (show cx.length = 32 by have := I2.out; rw [Tryz.sizeId] at this; injection this with this; exact this.symm)
            refine (AllReady.cons rfl (fun K hK => ?_) (AllReady.cons rfl (fun K hK => ?_) AllReady.nil))
            · refine step_append_Q rfl (.const (.slice none 0 0)) (.tmp 46) 31 rfl W.heap.size 25 (.agg zero32.toArray) 32 32 Tryz.underlying31 Tryz.infoIdz rfl (by decide) (.slice none 0 0) 0 [] rfl (RowQ.nil _ _ _ _) A1 k c1 (rowI (out.take k)) rfl (srcI_take (R0.out.src (rowI_one _)) k HK.out) (by have := HK.out; have := M0.out; omega) (by have := HK.out; have := M0.out; omega) LW.out.size ?_
              intro v1 w1 hr1 hg1 hat1
              rw [Nat.zero_add, List.nil_append] at hr1
              have R1 := Lib.hid hr1
              have G1 := Lib.hid hg1
              have AT1 := Lib.hid hat1
              have L1 := Lib.hid (LW.out.grown hg1 LW.out.size (fun k e => by cases e))
              clear hr1 hg1 hat1
              refine hK _ _ ?_
              clear hK K
              refine wpAny_ready (rs := [7]) (by kernel_rfl) (by simp) ?_
              refine (AllReady.cons rfl (fun K hK => ?_) AllReady.nil)
              refine step_loadA (by rfl) 25 (.tmp 50) rfl ⟨bl, ol + i * 32, none⟩ rfl cx 32 5 Tryz.underlying25 I2.out (by rw [HCX.out]; exact HSL.out _ L1.out) ?_
              refine hK _ _ ?_
              clear hK K
              refine wpAny_ready (rs := [8]) (by kernel_rfl) (by simp) ?_
              refine (AllReady.cons rfl (fun K hK => ?_) AllReady.nil)
              refine step_buildI (by rfl) (.tmp 51) rfl cx rfl LX.out ?_
              have T0 := thr_a (x := x) R1.out G1.out AT1.out
              rw [← HCX.out] at T0
              have TH := Lib.hid T0
              clear T0 R1 G1 AT1 L1
              generalize w1.heap.size = g at TH ⊢
              generalize w1.alloc (.cells cx.toArray 25) = w3 at TH ⊢
              refine hK _ _ ?_
              clear hK K
              refine wpAny_ready (rs := [9]) (by kernel_rfl) (by simp) ?_
              refine (AllReady.cons rfl (fun K hK => ?_) AllReady.nil)
              refine step_append_Q rfl (.tmp 47) (.tmp 52) 31 rfl W.heap.size 25 (.agg zero32.toArray) 32 32 Tryz.underlying31 Tryz.infoIdz rfl (by decide) v1 k (rowI (out.take k)) rfl TH.out.row (some ⟨g, 0, none⟩) 1 1 (rowI [x]) rfl TH.out.src (by have := HK.out; have := M0.out; omega) (by have := HK.out; have := M0.out; omega) (by have := LW.out.size; have := TH.out.low.size; omega) ?_
              intro v2 w4 hr2 hg2 hat2
              have R2 := Lib.hid hr2
              have G2 := Lib.hid hg2
              have AT2 := Lib.hid hat2
              clear hr2 hg2 hat2
              refine hK _ _ ?_
              clear hK K
              refine wpAny_ready (rs := [13]) (by kernel_rfl) (by simp) ?_
              refine (AllReady.cons rfl (fun K hK => ?_) AllReady.nil)
              refine step_append_Q rfl (.tmp 53) (.tmp 56) 31 rfl W.heap.size 25 (.agg zero32.toArray) 32 32 Tryz.underlying31 Tryz.infoIdz rfl (by decide) v2 (k + 1) (rowI (out.take k) ++ rowI [x]) rfl R2.out (if c1 = k then A1 else A1.map (·.add (k * 32))) (m - k) (c1 - k) (rowI (out.drop k)) rfl ((thr_out TH.out G2.out R0.out).midI k HK.out) (by have := HK.out; have := M0.out; omega) (by have := HK.out; have := M0.out; omega) (by have := LW.out.size; have := TH.out.low.size; have := G2.out.size; omega) ?_
              intro v3 w5 hr3 hg3 hat3
              have R3 := Lib.hid hr3
              have LE := Lib.hid (thr_end TH.out LW.out G2.out AT2.out hg3)
              clear hr3 hg3 hat3 G2 AT2 R2 TH
              refine hK _ _ ?_
              clear hK K
              refine wpAny_ready (rs := [14]) (by kernel_rfl) (by simp) ?_
              refine (AllReady.cons rfl (fun K hK => ?_) AllReady.nil)
              go_simp
              refine hK _ _ ?_
              clear hK K
              refine wpAny_done (by kernel_rfl) ?_ _
              go_wp2
              go_roundw
              case measure => simp [intOf]; have := HI.out; omega
              case rel =>
                refine ⟨i + 1, by have := HI.out; omega, by go_num, ?_, LE.out⟩
                have hml : m = out.length := HM.out
                rw [HY.out]
                have e1 : (out.take k ++ [x] ++ out.drop k).length = k + 1 + (m - k) := by simp; have := HK.out; omega
                rw [e1, rowI_append, rowI_append]
                exact R3.out
            · refine step_loadA (by rfl) 25 (.tmp 50) rfl ⟨bl, ol + i * 32, none⟩ rfl cx 32 5 Tryz.underlying25 I2.out (by rw [HCX.out]; exact HSL.out _ LW.out) ?_
              refine hK _ _ ?_
              clear hK K
              refine wpAny_ready (rs := [3, 8]) (by kernel_rfl) (by simp) ?_
              refine (AllReady.cons rfl (fun K hK => ?_) (AllReady.cons rfl (fun K hK => ?_) AllReady.nil))
              · refine step_append_Q rfl (.const (.slice none 0 0)) (.tmp 46) 31 rfl W.heap.size 25 (.agg zero32.toArray) 32 32 Tryz.underlying31 Tryz.infoIdz rfl (by decide) (.slice none 0 0) 0 [] rfl (RowQ.nil _ _ _ _) A1 k c1 (rowI (out.take k)) rfl (srcI_take (R0.out.src (rowI_one _)) k HK.out) (by have := HK.out; have := M0.out; omega) (by have := HK.out; have := M0.out; omega) LW.out.size ?_
                intro v1 w1 hr1 hg1 hat1
                rw [Nat.zero_add, List.nil_append] at hr1
                have R1 := Lib.hid hr1
                have G1 := Lib.hid hg1
                have AT1 := Lib.hid hat1
                have L1 := Lib.hid (LW.out.grown hg1 LW.out.size (fun k e => by cases e))
                clear hr1 hg1 hat1
                refine hK _ _ ?_
                clear hK K
                refine wpAny_ready (rs := [8]) (by kernel_rfl) (by simp) ?_
                refine (AllReady.cons rfl (fun K hK => ?_) AllReady.nil)
                refine step_buildI (by rfl) (.tmp 51) rfl cx rfl LX.out ?_
                have T0 := thr_a (x := x) R1.out G1.out AT1.out
                rw [← HCX.out] at T0
                have TH := Lib.hid T0
                clear T0 R1 G1 AT1 L1
                generalize w1.heap.size = g at TH ⊢
                generalize w1.alloc (.cells cx.toArray 25) = w3 at TH ⊢
                refine hK _ _ ?_
                clear hK K
                refine wpAny_ready (rs := [9]) (by kernel_rfl) (by simp) ?_
                refine (AllReady.cons rfl (fun K hK => ?_) AllReady.nil)
                refine step_append_Q rfl (.tmp 47) (.tmp 52) 31 rfl W.heap.size 25 (.agg zero32.toArray) 32 32 Tryz.underlying31 Tryz.infoIdz rfl (by decide) v1 k (rowI (out.take k)) rfl TH.out.row (some ⟨g, 0, none⟩) 1 1 (rowI [x]) rfl TH.out.src (by have := HK.out; have := M0.out; omega) (by have := HK.out; have := M0.out; omega) (by have := LW.out.size; have := TH.out.low.size; omega) ?_
                intro v2 w4 hr2 hg2 hat2
                have R2 := Lib.hid hr2
                have G2 := Lib.hid hg2
                have AT2 := Lib.hid hat2
                clear hr2 hg2 hat2
                refine hK _ _ ?_
                clear hK K
                refine wpAny_ready (rs := [13]) (by kernel_rfl) (by simp) ?_
                refine (AllReady.cons rfl (fun K hK => ?_) AllReady.nil)
                refine step_append_Q rfl (.tmp 53) (.tmp 56) 31 rfl W.heap.size 25 (.agg zero32.toArray) 32 32 Tryz.underlying31 Tryz.infoIdz rfl (by decide) v2 (k + 1) (rowI (out.take k) ++ rowI [x]) rfl R2.out (if c1 = k then A1 else A1.map (·.add (k * 32))) (m - k) (c1 - k) (rowI (out.drop k)) rfl ((thr_out TH.out G2.out R0.out).midI k HK.out) (by have := HK.out; have := M0.out; omega) (by have := HK.out; have := M0.out; omega) (by have := LW.out.size; have := TH.out.low.size; have := G2.out.size; omega) ?_
                intro v3 w5 hr3 hg3 hat3
                have R3 := Lib.hid hr3
                have LE := Lib.hid (thr_end TH.out LW.out G2.out AT2.out hg3)
                clear hr3 hg3 hat3 G2 AT2 R2 TH
                refine hK _ _ ?_
                clear hK K
                refine wpAny_ready (rs := [14]) (by kernel_rfl) (by simp) ?_
                refine (AllReady.cons rfl (fun K hK => ?_) AllReady.nil)
                go_simp
                refine hK _ _ ?_
                clear hK K
                refine wpAny_done (by kernel_rfl) ?_ _
                go_wp2
                go_roundw
                case measure => simp [intOf]; have := HI.out; omega
                case rel =>
                  refine ⟨i + 1, by have := HI.out; omega, by go_num, ?_, LE.out⟩
                  have hml : m = out.length := HM.out
                  rw [HY.out]
                  have e1 : (out.take k ++ [x] ++ out.drop k).length = k + 1 + (m - k) := by simp; have := HK.out; omega
                  rw [e1, rowI_append, rowI_append]
                  exact R3.out
              · refine step_buildI (by rfl) (.tmp 51) rfl cx rfl LX.out ?_
                have LB := Lib.hid ((Below.refl v0.heap.size v0).alloc (Nat.le_refl _) (.cells cx.toArray 25))
                refine hK _ _ ?_
                clear hK K
                refine wpAny_ready (rs := [3]) (by kernel_rfl) (by simp) ?_
                refine (AllReady.cons rfl (fun K hK => ?_) AllReady.nil)
                refine step_append_Q rfl (.const (.slice none 0 0)) (.tmp 46) 31 rfl W.heap.size 25 (.agg zero32.toArray) 32 32 Tryz.underlying31 Tryz.infoIdz rfl (by decide) (.slice none 0 0) 0 [] rfl (RowQ.nil _ _ _ _) A1 k c1 (rowI (out.take k)) rfl (srcI_below (srcI_take (R0.out.src (rowI_one _)) k HK.out) LB.out) (by have := HK.out; have := M0.out; omega) (by have := HK.out; have := M0.out; omega) (by have := LW.out.size; have := LB.out.size; omega) ?_
                intro v1 w3 hr1 hg1 hat1
                rw [Nat.zero_add, List.nil_append] at hr1
                rw [HCX.out] at hg1 hat1
                have TH := Lib.hid (thr_b (x := x) hr1 hg1 hat1)
                clear hr1 hg1 hat1 LB
                generalize v0.heap.size = g at TH ⊢
                refine hK _ _ ?_
                clear hK K
                refine wpAny_ready (rs := [9]) (by kernel_rfl) (by simp) ?_
                refine (AllReady.cons rfl (fun K hK => ?_) AllReady.nil)
                refine step_append_Q rfl (.tmp 47) (.tmp 52) 31 rfl W.heap.size 25 (.agg zero32.toArray) 32 32 Tryz.underlying31 Tryz.infoIdz rfl (by decide) v1 k (rowI (out.take k)) rfl TH.out.row (some ⟨g, 0, none⟩) 1 1 (rowI [x]) rfl TH.out.src (by have := HK.out; have := M0.out; omega) (by have := HK.out; have := M0.out; omega) (by have := LW.out.size; have := TH.out.low.size; omega) ?_
                intro v2 w4 hr2 hg2 hat2
                have R2 := Lib.hid hr2
                have G2 := Lib.hid hg2
                have AT2 := Lib.hid hat2
                clear hr2 hg2 hat2
                refine hK _ _ ?_
                clear hK K
                refine wpAny_ready (rs := [13]) (by kernel_rfl) (by simp) ?_
                refine (AllReady.cons rfl (fun K hK => ?_) AllReady.nil)
                refine step_append_Q rfl (.tmp 53) (.tmp 56) 31 rfl W.heap.size 25 (.agg zero32.toArray) 32 32 Tryz.underlying31 Tryz.infoIdz rfl (by decide) v2 (k + 1) (rowI (out.take k) ++ rowI [x]) rfl R2.out (if c1 = k then A1 else A1.map (·.add (k * 32))) (m - k) (c1 - k) (rowI (out.drop k)) rfl ((thr_out TH.out G2.out R0.out).midI k HK.out) (by have := HK.out; have := M0.out; omega) (by have := HK.out; have := M0.out; omega) (by have := LW.out.size; have := TH.out.low.size; have := G2.out.size; omega) ?_
                intro v3 w5 hr3 hg3 hat3
                have R3 := Lib.hid hr3
                have LE := Lib.hid (thr_end TH.out LW.out G2.out AT2.out hg3)
                clear hr3 hg3 hat3 G2 AT2 R2 TH
                refine hK _ _ ?_
                clear hK K
                refine wpAny_ready (rs := [14]) (by kernel_rfl) (by simp) ?_
                refine (AllReady.cons rfl (fun K hK => ?_) AllReady.nil)
                go_simp
                refine hK _ _ ?_
                clear hK K
                refine wpAny_done (by kernel_rfl) ?_ _
                go_wp2
                go_roundw
                case measure => simp [intOf]; have := HI.out; omega
                case rel =>
                  refine ⟨i + 1, by have := HI.out; omega, by go_num, ?_, LE.out⟩
                  have hml : m = out.length := HM.out
                  rw [HY.out]
                  have e1 : (out.take k ++ [x] ++ out.drop k).length = k + 1 + (m - k) := by simp; have := HK.out; omega
                  rw [e1, rowI_append, rowI_append]
                  exact R3.out
    · have : i = n := by omega
      subst this
      obtain ⟨A1, c1, rfl, _, _⟩ := hr.shape
      have HR := Lib.hid hr
      have HB := Lib.hid hb
      clear hr hb hi hlt
      go_wp2
      go_ret
      have e : l.take i = l := List.take_of_length_le (by have := LN.out; omega)
      have h1 := HR.out
      rw [e] at h1 ⊢
      exact ⟨A1, c1, rfl, h1.src (rowI_one _), HB.out⟩
end Go.Proofs.YticcianbphljpaaGreatDoor
