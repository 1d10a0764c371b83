/- A row of names: how it lies, what is read of it; sorted, each once (oid.Sort). A row of names: an element read, as a step of a walk; whether a name is among them; two rows held against each other. ref1.Eq: two rows of names held against each other. The document's answers for names: which of two is the less, whether one is among others, names put in one by one. -/
import Derived.Test.YtpbnigpdpkfpaaaGreatDoorOd
import Derived.Test.YtpbnigpdpkfpaaaGreatDoorKc
import Derived.Test.YtpbnigpdpkfpaaaGreatDoorSk
import Derived.Test.YtpbnigpdpkfpaaaGreatDoorP1x
import Derived.Test.YtpbnigpdpkfpaaaGreatDoorP2x
import Derived.Shelf.SlSortCmp.NoneTotal
import Derived.Shelf.SlicesQ.Contains
import Derived.Test.YtpbnigpdpkfpaaaGreatDoorP5x
import Derived.Test.YtpbnigpdpkfpaaaGreatDoorP15x
import Derived.Deep.DeepCutAuto
namespace Go.Proofs.YtpbnigpdpkfpaaaGreatDoor
open Go.RowKit Go.Sort
/-- The cells of names. -/
def rowI (l : List Idt) : List Value := l.flatMap encI
theorem rowI_len (l : List Idt) : (rowI l).length = l.length * 32 := by
  induction l with
  | nil => rfl
  | cons x r ih => unfold rowI at ih ⊢; rw [List.flatMap_cons, List.length_append, ih, encI_len, List.length_cons]; omega
theorem rowI_one (l : List Idt) : ∀ v ∈ rowI l, v.oneCell' = true := by
  intro v hv
  obtain ⟨x, _, h⟩ := List.mem_flatMap.1 hv
  exact encI_one x v h
theorem rowI_append (a b : List Idt) : rowI (a ++ b) = rowI a ++ rowI b := List.flatMap_append
theorem rowI_take (l : List Idt) (k : Nat) (h : k ≤ l.length) : (rowI l).take (k * 32) = rowI (l.take k) := by
  conv => lhs; rw [← List.take_append_drop k l, rowI_append]
  rw [List.take_append_of_le_length (by rw [rowI_len, List.length_take]; omega), List.take_of_length_le (by rw [rowI_len, List.length_take]; omega)]
theorem rowI_at (l : List Idt) : ∀ (j i : Nat) (v : Value), j < l.length → (encI l[j]!)[i]? = some v → (rowI l)[j * 32 + i]? = some v := by
  induction l with
  | nil => intro j i v h; simp at h
  | cons x r ih =>
    intro j i v h hv
    have e : rowI (x :: r) = encI x ++ rowI r := rfl
    rw [e]
    cases j with
    | zero =>
      have hi : i < (encI x).length := (List.getElem?_eq_some_iff.1 hv).1
      rw [Nat.zero_mul, Nat.zero_add, List.getElem?_append_left hi]
      exact hv
    | succ j =>
      rw [List.getElem?_append_right (by rw [encI_len]; omega), encI_len, show (j + 1) * 32 + i - 32 = j * 32 + i by omega]
      exact ih j i v (by simpa using h) (by simpa using hv)
theorem rowI_flat (l : List Idt) : (flatK encI 32 l.toArray).toList = rowI l := by
  apply List.ext_getElem?
  intro t
  by_cases h : t < l.length * 32
  · have hj : t / 32 < l.length := by omega
    have h1 := get_flatK encI 32 l.toArray t (by simpa using h)
    have h2 : t < (flatK encI 32 l.toArray).size := by simpa using h
    rw [getElem!_pos _ t h2] at h1
    have hi : t % 32 < (encI l[t / 32]!).length := by rw [encI_len]; omega
    have h3 := rowI_at l (t / 32) (t % 32) _ hj (List.getElem?_eq_getElem hi)
    rw [show t / 32 * 32 + t % 32 = t by omega] at h3
    have e1 : l.toArray[t / 32]! = l[t / 32]! := by simp
    rw [h3, List.getElem?_eq_getElem (by simpa using h), Array.getElem_toList, h1, e1, getElem!_pos (encI l[t / 32]!) (t % 32) hi]
  · rw [List.getElem?_eq_none (by simp; omega), List.getElem?_eq_none (by rw [rowI_len]; omega)]
theorem add_row (ad : Addr) (h : ad.spot = none) (j : Nat) : ad.add j = ⟨ad.block, ad.off + j, none⟩ := by
  unfold Addr.add
  split
  · rename_i e; subst e; cases ad; simp_all
  · rfl
theorem cell_spot {w : World} {a : Addr} {v : Value} (h : w.cell? a = some v) : a.spot = none := by
  unfold World.cell? at h
  split at h
  · split at h
    · cases h
    · rename_i h1; cases hs : a.spot <;> simp_all
  · cases h
/-- Names that can be read: where they lie. -/
theorem src_names {w : World} {A : Option Addr} {n : Nat} {l : List Idt} (h : Src w 32 A n (rowI l)) (hn : 0 < n) : l.length = n ∧ ∃ b o, A = some ⟨b, o, none⟩ ∧ ∀ j, j < n → ∀ i v, (encI l[j]!)[i]? = some v → w.cell? ⟨b, o + j * 32 + i, none⟩ = some v := by
  have hl : l.length = n := by have := h.1; rw [rowI_len] at this; omega
  refine ⟨hl, ?_⟩
  obtain ⟨ad, hA, hc⟩ := h.2.1 hn
  have hs : ad.spot = none := by
    have hi : 0 < (encI l[0]!).length := by rw [encI_len]; omega
    have := cell_spot (hc _ _ (rowI_at l 0 0 _ (by omega) (List.getElem?_eq_getElem hi)))
    simpa [Addr.add] using this
  refine ⟨ad.block, ad.off, by rw [hA]; cases ad; simp_all, fun j hj i v hv => ?_⟩
  have := hc _ _ (rowI_at l j i v (by omega) hv)
  rwa [add_row ad hs, ← Nat.add_assoc] at this
theorem src_len {w : World} {A : Option Addr} {n : Nat} {l : List Idt} (h : Src w 32 A n (rowI l)) : l.length = n := by
  have := h.1; rw [rowI_len] at this; omega
theorem srcI_below {w w' : World} {A : Option Addr} {m : Nat} {l : List Idt} (h : Src w 32 A m (rowI l)) (hb : Below w.heap.size w w') : Src w' 32 A m (rowI l) :=
  h.far fun ad hA hm => hb.block _ (src_lt h (by decide) ad hA hm)
theorem srcI_take {w : World} {A : Option Addr} {n : Nat} {l : List Idt} (h : Src w 32 A n (rowI l)) (k : Nat) (hk : k ≤ n) : Src w 32 A k (rowI (l.take k)) := by
  have hl := src_len h
  refine ⟨by rw [rowI_len, List.length_take]; congr 1; omega, fun h0 => ?_, rowI_one _⟩
  obtain ⟨ad, ha, hx⟩ := h.2.1 (by omega)
  refine ⟨ad, ha, fun j u hj => hx j u ?_⟩
  rw [← rowI_take l k (by omega), List.getElem?_take] at hj
  split at hj
  · exact hj
  · cases hj
/-- A row of the call's own. -/
theorem holds_of_row {w : World} {B : Nat} {e : TypeId} {g o n cap : Nat} {l : List Idt} (h : RowQ w B e 32 (.slice (some ⟨g, o, none⟩) n cap) n (rowI l)) : l.length = n ∧ B ≤ g ∧ g < w.heap.size ∧ n ≤ cap ∧ HoldsK encI 32 w g o l.toArray := by
  have hl : l.length = n := by have := h.1; rw [rowI_len] at this; omega
  rcases h.2 with ⟨hv, _⟩ | ⟨g', o', cap', cur, hv, hbg, hg, hnc, hcm, hcs, ht⟩
  · injection hv with h1; cases h1
  · injection hv with hA _ hc
    injection hA with hA
    injection hA with h1 h2 _
    subst h1; subst h2; subst hc
    refine ⟨hl, hbg, (Array.getElem?_eq_some_iff.1 hg).1, hnc, fun j hj => ⟨?_, frozen_of_row w g (o + j) cur e hg⟩⟩
    rw [cell_of_row w g (o + j) cur e (0, 0) hg]
    have hj2 : j < n * 32 := by rw [size_flatK] at hj; simpa [hl] using hj
    have h1 : (rowI l)[j]? = some (flatK encI 32 l.toArray)[j]! := by
      rw [← rowI_flat, List.getElem?_eq_getElem (by simpa using hj), getElem!_pos _ j hj, Array.getElem_toList]
    rw [← ht, List.getElem?_take, if_pos hj2, List.getElem?_drop] at h1
    simpa using h1
theorem src_of_holds {w : World} {g o : Nat} {d : Array Idt} (h : HoldsK encI 32 w g o d) (m : Nat) (hm : m ≤ d.size) : Src w 32 (some ⟨g, o, none⟩) m (rowI (d.toList.take m)) := by
  have hl : (d.toList.take m).length = m := by rw [List.length_take, Array.length_toList]; omega
  refine ⟨by rw [rowI_len, hl], fun _ => ⟨_, rfl, fun j u hj => ?_⟩, rowI_one _⟩
  rw [← rowI_take _ m (by simpa using hm), List.getElem?_take] at hj
  split at hj
  · rename_i hjm
    have hs : j < (flatK encI 32 d).size := by rw [size_flatK]; have := Nat.mul_le_mul_right 32 hm; omega
    have h1 := (h j hs).1
    have e := rowI_flat d.toList
    rw [Array.toArray_toList] at e
    rw [← e, List.getElem?_eq_getElem (by simpa using hs), Array.getElem_toList] at hj
    rw [add_row _ rfl, h1, ← hj, getElem!_pos _ j hs]
    rfl
  · cases hj
theorem below_putRowK {B : Nat} {a w : World} (h : Below B a w) (blk off : Nat) (d : Array Idt) (hb : B ≤ blk) : Below B a (putRowK encI 32 w blk off d) :=
  h.trans ⟨rfl, rfl, rfl, by simp [putRowK, putRow, mapBlock], fun k hk => by simp only [putRowK, putRow, mapBlock, Array.getElem?_modify]; rw [if_neg (by omega)]⟩
theorem below_grow {B : Nat} {a w : World} (h : Below B a w) (os : Array Obj) (hB : B ≤ w.heap.size) : Below B a (grow w os) :=
  h.trans ⟨rfl, rfl, rfl, by simp [grow], fun k hk => by simp only [grow]; rw [Array.getElem?_append_left (by omega)]⟩
theorem below_ahead {B : Nat} {a w : World} (h : Below B a w) (n : Nat) : Below B a (Sort.ahead w n) := ⟨h.os, h.tape, h.output, h.size, h.block⟩
theorem Tryz.infoIdz : (Tryz.prog.info? 24).map (fun i => (i.zero, i.size, i.bytes)) = some (some (.agg zero32.toArray), 32, 32) := by kernel_rfl
set_option maxHeartbeats 800000 in
theorem cloneI_any (W : World) (A : Option Addr) (n c : Nat) (l : List Idt) (hs : Src W 32 A n (rowI l)) (hn : n ≤ 1099511627776) :
    Calls Tryz.prog 150 #[.slice A n c] W fun e W' => ∃ v, e = .returned v ∧ RowQ W' W.heap.size 24 32 v n (rowI l) ∧ Below W.heap.size W W' := by
  have hnil : ∀ W, (binOp .eql 25 (.slice A n c) (.slice none 0 0)).run Tryz.prog W = .ok (.bool A.isNone) W := fun W => by cases A <;> exact Lib.run_eql_slice_nil (P := Tryz.prog) W 25 24 _ n c 0 0 Tryz.underlying25
  cases A with
  | none =>
    have h0 : n = 0 := by
      rcases Nat.eq_zero_or_pos n with h | h
      · exact h
      · obtain ⟨ad, h1, _⟩ := hs.2.1 h; cases h1
    subst h0
    have hl : l = [] := List.eq_nil_of_length_eq_zero (src_len hs)
    subst hl
    clear hs
    go_enter Tryz.func150, Tryz.ntmps150
    go_wp2
    go_ret
    exact ⟨_, rfl, RowQ.nil _ _ _ _, Below.refl _ _⟩
  | some ad =>
    have HS := Lib.hid hs
    clear hs
    go_enter Tryz.func150, Tryz.ntmps150
    go_wp2_with (at_builtin; refine wpl_append rfl (.tmp 5) (.tmp 6) 25 rfl W.heap.size 24 (.agg zero32.toArray) 32 32 Tryz.underlying25 Tryz.infoIdz rfl (by decide) (.slice (some ⟨W.heap.size, 0, none⟩) 0 0) 0 [] rfl (RowQ.empty_new W 24 32) (some ad) n c (rowI l) rfl (HS.out.far (fun ad hA hm => Below.heap_alloc W _ _ (src_lt HS.out (by decide) ad hA hm))) (by omega) (by omega) (by simp) ?_; intro v1 w1 hr1 hg1 hat1; have P1 := Lib.hid (And.intro hr1 (And.intro hg1 hat1)); clear hr1 hg1 hat1)
    go_ret
    obtain ⟨h1, h2, h3⟩ := P1.out
    refine ⟨v1, rfl, by simpa using h1, ?_⟩
    exact ((Below.refl _ W).alloc (Nat.le_refl _) _).grown h2 (by simp) (by intro k hk; simp [Value.ownBlock] at hk; omega)
theorem eqlI (w : World) (x y : Idt) : (Op.equalIn 10000 24 (.agg (encI x).toArray) (.agg (encI y).toArray)).run Tryz.prog w = .ok (decide (x = y)) w := by
  have := eqIn_bytes w 24 Tryz.underlying24 x.1 y.1 x.2 y.2
  have e : decide (x.1 = y.1) = decide (x = y) := by
    by_cases h : x = y
    · rw [decide_eq_true h, decide_eq_true (by rw [h])]
    · rw [decide_eq_false h, decide_eq_false (fun e => h (Subtype.ext e))]
  rw [e] at this
  exact this
theorem eqlAtI : EqlAt Tryz.prog 24 (fun x => .agg (encI x).toArray) (fun x y => decide (x = y)) :=
  ⟨fun x y w => by rw [run_eql_struct, eqlI w x y]; rfl, GuardAt.agg _ (by kernel_rfl)⟩
theorem neqAtI : NeqAt Tryz.prog 24 (fun x => .agg (encI x).toArray) (fun x y => decide (x = y)) :=
  ⟨fun x y w => by rw [run_neq_struct, eqlI w x y]; rfl, GuardAt.agg _ (by kernel_rfl)⟩
def Tryz.compactK_ren : Go.Shelf.Ren := ⟨fun | 43 => 153 | n => n, fun | 0 => 0 | 3 => 3 | 4 => 4 | 22 => 25 | 23 => 24 | n => n, fun n => n⟩
theorem Tryz.compactK : CoLays Tryz.prog Tryz.compactK_ren := {
  mixed := by kernel_rfl
  f43 := ⟨Tryz.f153.name, by decide, Tryz.func153.trans (congrArg some (by kernel_rfl))⟩
  t0 := Tryz.underlying0
  a0 := Tryz.isAgg0
  z0 := Tryz.sizeOf0
  v0 := Tryz.zeroValue0
  t3 := Tryz.underlying3
  a3 := Tryz.isAgg3
  z3 := Tryz.sizeOf3
  v3 := Tryz.zeroValue3
  t4 := Tryz.underlying4
  a4 := Tryz.isAgg4
  z4 := Tryz.sizeOf4
  v4 := Tryz.zeroValue4
  t22 := Tryz.underlying25
  a22 := Tryz.isAgg25
  z22 := Tryz.sizeOf25
  v22 := Tryz.zeroValue25 }
theorem zeroI : ∀ w, (zeroValue 24).run Tryz.prog w = .ok (.agg (encI default).toArray) w := fun w => (Tryz.zeroValue24 w).trans (congrArg (fun v => Result.ok v w) (by kernel_rfl))
theorem compactI (blk off cap : Nat) (d : Array Idt) (w : World) (hH : HoldsK encI 32 w blk off d) (hsz : d.size ≤ 9223372036854775807) (hcap : d.size ≤ cap) :
    Calls Tryz.prog 153 #[.slice (some ⟨blk, off, none⟩) d.size cap] w fun e w' => e = .returned (.slice (some ⟨blk, off, none⟩) (Lib.compactUpTo d d.size).length cap) ∧ ∃ q, w' = putRowK encI 32 (Sort.ahead w q) blk off (Lib.compactUpTo d d.size ++ List.replicate (d.size - (Lib.compactUpTo d d.size).length) default).toArray :=
  compactK Tryz.compactK 32 Tryz.isAgg24 Tryz.sizeOf24 encI encI_len encI_one eqlAtI neqAtI default zeroI blk off cap d w hH hsz hcap
theorem sortFuncI (blk off cap : Nat) (d : Array Idt) (w : World) (hH : HoldsK encI 32 w blk off d) (hblk : blk < w.heap.size) (hsz : d.size < 4611686018427387904) :
    Calls Tryz.prog 151 #[.slice (some ⟨blk, off, none⟩) d.size cap, .func (.func 152) #[] #[]] w fun e w' =>
      e = .returned (.tuple #[]) ∧ ∃ n os, w' = sortWorldK encI 32 w blk off n (d.toList.mergeSort fun x y => !ilt y x).toArray os :=
  AnyQ.slices_SortFunc_total Tryz.sortK 32 Tryz.isAgg24 Tryz.sizeOf24 encI encI_len encI_one icmp ilt_swo 152 #[] blk off cap d w (enters_of Tryz.func152 (by kernel_rfl) rfl) (cmpLaysI _ _ _ _) hH hblk hsz ilt_total
theorem sortFuncI_none (p : Option Addr) (cap : Nat) (w : World) : Calls Tryz.prog 151 #[.slice p 0 cap, .func (.func 152) #[] #[]] w fun e w' => e = .returned (.tuple #[]) ∧ w' = w :=
  AnyF.slices_SortFunc_none Tryz.sortK p cap _ w
theorem compactI_none (p : Option Addr) (cap : Nat) (w : World) : Calls Tryz.prog 153 #[.slice p 0 cap] w fun e w' => e = .returned (.slice p 0 cap) ∧ w' = w := by
  go_enter Tryz.func153, Tryz.ntmps153
  go_wp2
  go_ret
  exact ⟨rfl, rfl⟩
/-- Names in order, each once: what oid.Sort hands back. -/
def IdsPost (W : World) (l : List Idt) (e : Ending) (W' : World) : Prop :=
  ∃ A c, e = .returned (.slice A l.length c) ∧ Src W' 32 A l.length (rowI l) ∧ Below W.heap.size W W'
theorem isort_row (W : World) (l : List Idt) (hn : l.length ≤ 1099511627776) (B g o cap : Nat) (w1 : World) (hr : RowQ w1 B 24 32 (.slice (some ⟨g, o, none⟩) l.length cap) l.length (rowI l)) (hb : W.heap.size ≤ B) (hW : Below W.heap.size W w1) :
    Calls Tryz.prog 151 #[.slice (some ⟨g, o, none⟩) l.length cap, .func (.func 152) #[] #[]] w1 fun e w2 => e = .returned (.tuple #[]) ∧ Below W.heap.size W w2 ∧
      Calls Tryz.prog 153 #[.slice (some ⟨g, o, none⟩) l.length cap] w2 (IdsPost W (sortI l)) := by
  obtain ⟨_, h1, h2, h3, h4⟩ := holds_of_row hr
  have hs := sortFuncI g o cap l.toArray w1 h4 h2 (by simp; omega)
  rw [List.size_toArray] at hs
  refine hs.mono fun e w2 ⟨he, n, os, hw⟩ => ⟨he, ?_, ?_⟩
  · rw [hw]
    exact below_grow (below_putRowK (below_ahead hW _) _ _ _ (by omega)) _ (by have := hW.size; simp [putRowK, putRow, mapBlock]; omega)
  · have hH2 : HoldsK encI 32 w2 g o (l.mergeSort fun x y => !ilt y x).toArray := by
      rw [hw]
      exact holdsK_sortWorldK_c encI 32 w1 g o l.toArray _ n os h4 h2 (by simp)
    have hc := compactI g o cap _ w2 hH2 (by simp; omega) (by simp; omega)
    have hL := sortI_len l
    have e0 : (l.mergeSort fun x y => !ilt y x).toArray.size = l.length := by simp
    have e1 : Lib.compactUpTo (l.mergeSort fun x y => !ilt y x).toArray (l.mergeSort fun x y => !ilt y x).toArray.size = sortI l := rfl
    rw [e1, e0] at hc
    have hB2 : Below W.heap.size W w2 := by
      rw [hw]
      exact below_grow (below_putRowK (below_ahead hW _) _ _ _ (by omega)) _ (by have := hW.size; simp [putRowK, putRow, mapBlock]; omega)
    refine hc.mono fun e w3 ⟨he, q, hw3⟩ => ⟨_, cap, he, ?_, ?_⟩
    · rw [hw3]
      have h5 : HoldsK encI 32 (putRowK encI 32 (Sort.ahead w2 q) g o (sortI l ++ List.replicate (l.length - (sortI l).length) default).toArray) g o (sortI l ++ List.replicate (l.length - (sortI l).length) default).toArray :=
        holdsK_putRowK encI 32 _ g o _ _ (holdsK_ahead encI 32 w2 q g o _ hH2) (by simp; omega)
      have := src_of_holds h5 (sortI l).length (by simp)
      simpa using this
    · rw [hw3]
      exact below_putRowK (below_ahead hB2 _) _ _ _ (by omega)
set_option maxHeartbeats 1600000 in
theorem isort_any (W : World) (A : Option Addr) (n c : Nat) (l : List Idt) (hs : Src W 32 A n (rowI l)) (hn : n ≤ 1099511627776) : Calls Tryz.prog 103 #[.slice A n c] W (IdsPost W (sortI l)) := by
  have hl := src_len hs
  have hc := cloneI_any W A n c l hs hn
  have HC := Lib.hid hc
  rcases Nat.eq_zero_or_pos n with h0 | hp
  · subst h0
    have hl0 : l = [] := List.eq_nil_of_length_eq_zero hl
    subst hl0
    have e0 : sortI [] = [] := by simp [sortI, Lib.compactUpTo]
    rw [e0]
    clear hs hc hl
    go_enter Tryz.func103, Tryz.ntmps103
    go_wp2_with (first
      | (go_at_call 150; refine HC.out.mono ?_; rintro e w1 ⟨v, rfl, h1, h2⟩; obtain ⟨A1, c1, rfl, _⟩ := h1.shape; have P1 := Lib.hid h2; clear h1 h2)
      | (go_at_call 151; refine (sortFuncI_none _ _ _).mono ?_; rintro e _ ⟨rfl, rfl⟩)
      | (go_at_call 153; refine (compactI_none _ _ _).mono ?_; rintro e _ ⟨rfl, rfl⟩))
    go_ret
    exact ⟨A1, c1, rfl, ⟨rfl, fun h => absurd h (by simp), fun u hu => absurd hu (by simp [rowI])⟩, P1.out⟩
  · subst hl
    clear hs hc
    have HP := Lib.hid hp
    have HN := Lib.hid hn
    clear hp hn
    go_enter Tryz.func103, Tryz.ntmps103
    go_wp2_with (first
      | (go_at_call 150; refine HC.out.mono ?_; rintro e w1 ⟨v, rfl, h1, h2⟩
         obtain ⟨g, o, cap, rfl⟩ : ∃ g o cap, v = .slice (some ⟨g, o, none⟩) l.length cap := by
           rcases h1.2 with ⟨_, h3⟩ | ⟨g, o, cap, _, h3, _⟩
           · exact absurd HP.out (by omega)
           · exact ⟨g, o, cap, h3⟩
         have P1 := Lib.hid (isort_row W l HN.out _ g o cap w1 h1 (Nat.le_refl _) h2); clear h1 h2)
      | (go_at_call 151; refine P1.out.mono ?_; rintro e w2 ⟨rfl, _, h2⟩; have P2 := Lib.hid h2; clear h2)
      | (go_at_call 153; refine P2.out.mono ?_; rintro e w3 ⟨A3, c3, rfl, h3⟩; have P3 := Lib.hid h3; clear h3))
    go_ret
    exact ⟨A3, c3, rfl, P3.out⟩
end Go.Proofs.YtpbnigpdpkfpaaaGreatDoor
namespace Go.Proofs.YtpbnigpdpkfpaaaGreatDoor
open Go.RowKit Go.Sort
section
variable {P : Program}
theorem run_loadA (w : World) (ty : TypeId) (ad : Addr) (cs : List Value) (n : Nat) (e : TypeId) (hu : P.underlying ty = some (.array n e)) (hi : (P.info? ty).map (·.size) = some cs.length)
    (h : ∀ j v, cs[j]? = some v → w.cell? (ad.add j) = some v) : (Instr.loadAt ty (.pointer (some ad))).run P w = .ok (.agg cs.toArray) w := by
  have hl : (loadCells ad cs.length).run P w = .ok cs.toArray w := run_loadCells_list (P := P) (w := w) ad cs h
  have : (loadVar ty ad).run P w = .ok (.agg cs.toArray) w := by
    cases hq : P.info? ty with
    | none => simp [hq] at hi
    | some i =>
      have hs : i.size = cs.length := by simpa [hq] using hi
      have hagg : (isAgg ty).run P w = .ok true w := by
        unfold isAgg
        rw [Sem.run_bind, run_underlying hu w]
        rfl
      simp [loadVar, hagg, sizeOf, typeInfo, hq, hs, hl]
  simpa [Instr.loadAt, Instr.sureAddr] using this
variable {ops : Array Oper} {rest : List Oper} {o : Oper} {a : Act} {w : World} {C : World → Prop}
theorem wpQuiet_loadA {Q : Act → Prop} (hgd : Region.wanted o (yielded ops a.tmps) = true) (ty : TypeId) (x : Operand) (ho : o.op = .load ty x) (ad : Addr) (hx : a.eval x = .pointer (some ad)) (cs : List Value) (n : Nat) (e : TypeId) (hu : P.underlying ty = some (.array n e)) (hi : (P.info? ty).map (·.size) = some cs.length)
    (hc : ∀ w, C w → ∀ j v, cs[j]? = some v → w.cell? (ad.add j) = some v) (h : wpQuiet P ops C Q rest (a.put o.dst (.agg cs.toArray))) : wpQuiet P ops C Q (o :: rest) a := by
  refine wpQuiet_val hgd (.agg cs.toArray) (fun w hw => ?_) h
  unfold execOp
  simp only [ho, hx]
  simp [run_loadA w ty ad cs n e hu hi (hc w hw)]
end
theorem infoI (x : Idt) : (Tryz.prog.info? 24).map (·.size) = some (encI x).length := by rw [Tryz.sizeId, encI_len]
/-- The place of element k of a row. -/
theorem at_name {w : World} {b o : Nat} {x : Idt} {k : Nat} (h : ∀ i v, (encI x)[i]? = some v → w.cell? ⟨b, o + k * 32 + i, none⟩ = some v) : ∀ j v, (encI x)[j]? = some v → w.cell? ((⟨b, o + k * 32, none⟩ : Addr).add j) = some v := by
  intro j v hv
  rw [add_row _ rfl]
  exact h j v hv
theorem boxI_blk (W : World) (x : Idt) : Blk (W.alloc (.cells (encI x).toArray 24)) W.heap.size 24 (encI x) := Blk.new W _ _
end Go.Proofs.YtpbnigpdpkfpaaaGreatDoor
namespace Go.Proofs.YtpbnigpdpkfpaaaGreatDoor
open Go.RowKit
theorem ids_ext {l r : List Idt} (hl : l.length = r.length) (h : ∀ j, j < l.length → l[j]! = r[j]!) : l = r := by
  apply List.ext_getElem hl
  intro j h1 h2
  have := h j h1
  rwa [getElem!_pos l j h1, getElem!_pos r j h2] at this
set_option maxHeartbeats 3200000 in
theorem ieq_any (W : World) (A B : Option Addr) (n m c d : Nat) (l r : List Idt) (ha : Src W 32 A n (rowI l)) (hb : Src W 32 B m (rowI r)) (hn : n ≤ 1099511627776) (hm : m ≤ 1099511627776) :
    Calls Tryz.prog 27 #[.slice A n c, .slice B m d] W fun e W' => e = .returned (.bool (decide (l = r))) ∧ ∃ q, W' = W.drewN q := by
  have hln := src_len ha
  have hlm := src_len hb
  by_cases hnm : n = m
  · subst hnm
    have HA := Lib.hid ha
    have HB := Lib.hid hb
    have HLN := Lib.hid hln
    have HLM := Lib.hid hlm
    clear ha hb hln hlm hm
    go_enter Tryz.func27, Tryz.ntmps27
    go_wp2
    go_loopw [5] (fun i wr => ∃ k q : Nat, k ≤ n ∧ i = .int .i64 k ∧ wr = W.drewN q ∧ ∀ j, j < k → l[j]! = r[j]!) (fun i _ => n - (intOf i).toNat)
    case atStart => exact ⟨0, 0, by omega, rfl, rfl, fun j h => by omega⟩
    case round =>
      obtain ⟨k, q, hk, rfl, rfl, hall⟩ := hrel
      by_cases hlt : k < n
      · obtain ⟨hl, ba, oa, rfl, ca⟩ := src_names HA.out (by omega)
        obtain ⟨_, bb, ob, rfl, cb⟩ := src_names HB.out (by omega)
        have ca1 := at_name (ca k hlt)
        have cb1 := at_name (cb k hlt)
        have hin := infoI l[k]!
        have hin2 := infoI r[k]!
        have hle : (encI l[k]!).length = 32 := encI_len _
        have hre : (encI r[k]!).length = 32 := encI_len _
        have hgu : ∀ op a b w, (eqGuard op 24 a b (.agg (encI l[k]!).toArray) (.agg (encI r[k]!).toArray)).run Tryz.prog w = .ok () w := fun op a b w => neqAtI.2 op a b l[k]! r[k]! w
        have k1 : (k : Int) < (n : Int) := by omega
        have k2 : (n : Int) ≤ 1099511627776 := by omega
        have HALL := Lib.hid hall
        by_cases hne : l[k]! = r[k]!
        · have heq : ∀ w, (binOp .neq 24 (.agg (encI l[k]!).toArray) (.agg (encI r[k]!).toArray)).run Tryz.prog w = .ok (.bool false) w := fun w => by
            have h := neqAtI.1 l[k]! r[k]! w
            have e : (!decide (l[k]! = r[k]!)) = false := by rw [decide_eq_true hne]; rfl
            exact h.trans (congrArg (fun z => Result.ok (Value.bool z) w) e)
          have hnext : ∀ j, j < k + 1 → l[j]! = r[j]! := fun j hj => by
            rcases Nat.lt_or_ge j k with h | h
            · exact hall j h
            · rw [show j = k by omega]; exact hne
          have HNX := Lib.hid hnext
          clear hnext hne hall
          generalize encI l[k]! = cs at ca1 hin heq hgu hle
          generalize encI r[k]! = cs2 at cb1 hin2 heq hgu hre
          have CA := Lib.hid ca1
          have CB := Lib.hid cb1
          have HI := Lib.hid hin
          have HI2 := Lib.hid hin2
          have HL := Lib.hid hlt
          clear ca cb ca1 cb1 HA HB hl hin hin2 hn hk hle hre
          go_wp2
          refine wp_region_quiet_lit (by kernel_rfl) (by kernel_rfl) ?_
          repeat (go_big_quiet_step (fail))
          refine wpQuiet_loadA (by rfl) 24 (.tmp 19) rfl ⟨ba, oa + k * 32, none⟩ rfl cs 32 5 Tryz.underlying24 HI.out (fun w ⟨m, hw⟩ => by subst hw; exact CA.out) ?_
          quiet_step (fail)
          repeat (go_big_quiet_step (fail))
          refine wpQuiet_loadA (by rfl) 24 (.tmp 23) rfl ⟨bb, ob + k * 32, none⟩ rfl cs2 32 5 Tryz.underlying24 HI2.out (fun w ⟨m, hw⟩ => by subst hw; exact CB.out) ?_
          quiet_step (fail)
          refine wpQuiet_nil ?_
          rintro _ ⟨n9, rfl⟩
          go_wp2
          go_roundw
          case measure => simp [intOf]; have := HL.out; omega
          case rel => exact ⟨k + 1, q + n9, by have := HL.out; omega, by go_num, by simp, HNX.out⟩
        · have heq : ∀ w, (binOp .neq 24 (.agg (encI l[k]!).toArray) (.agg (encI r[k]!).toArray)).run Tryz.prog w = .ok (.bool true) w := fun w => by
            have h := neqAtI.1 l[k]! r[k]! w
            have e : (!decide (l[k]! = r[k]!)) = true := by rw [decide_eq_false hne]; rfl
            exact h.trans (congrArg (fun z => Result.ok (Value.bool z) w) e)
          have hlr : decide (l = r) = false := decide_eq_false (fun e => hne (by rw [e]))
          have HLR := Lib.hid hlr
          clear hlr hne hall HALL
          generalize encI l[k]! = cs at ca1 hin heq hgu hle
          generalize encI r[k]! = cs2 at cb1 hin2 heq hgu hre
          have CA := Lib.hid ca1
          have CB := Lib.hid cb1
          have HI := Lib.hid hin
          have HI2 := Lib.hid hin2
          clear ca cb ca1 cb1 HA HB hl hin hin2 hn hk hle hre hlt
          go_wp2
          refine wp_region_quiet_lit (by kernel_rfl) (by kernel_rfl) ?_
          repeat (go_big_quiet_step (fail))
          refine wpQuiet_loadA (by rfl) 24 (.tmp 19) rfl ⟨ba, oa + k * 32, none⟩ rfl cs 32 5 Tryz.underlying24 HI.out (fun w ⟨m, hw⟩ => by subst hw; exact CA.out) ?_
          quiet_step (fail)
          repeat (go_big_quiet_step (fail))
          refine wpQuiet_loadA (by rfl) 24 (.tmp 23) rfl ⟨bb, ob + k * 32, none⟩ rfl cs2 32 5 Tryz.underlying24 HI2.out (fun w ⟨m, hw⟩ => by subst hw; exact CB.out) ?_
          quiet_step (fail)
          refine wpQuiet_nil ?_
          rintro _ ⟨n9, rfl⟩
          go_wp2
          go_ret
          exact ⟨by rw [HLR.out]; rfl, q + n9, by simp⟩
      · have : k = n := by omega
        subst this
        have hlr : decide (l = r) = true := decide_eq_true (ids_ext (by rw [HLN.out, HLM.out]) (fun j hj => hall j (by rw [HLN.out] at hj; exact hj)))
        have HLR := Lib.hid hlr
        clear hlr hall
        go_wp2
        go_ret
        exact ⟨by rw [HLR.out]; rfl, q, rfl⟩
  · have hlr : decide (l = r) = false := decide_eq_false (fun e => hnm (by rw [← hln, ← hlm, e]))
    rw [hlr]
    have h1 : ((n : Int) != (m : Int)) = true := by simp; omega
    clear ha hb hln hlm hlr hnm hn hm
    go_enter Tryz.func27, Tryz.ntmps27
    go_wp2
    go_ret
    exact ⟨rfl, 0, rfl⟩
end Go.Proofs.YtpbnigpdpkfpaaaGreatDoor
namespace Go.Proofs.YtpbnigpdpkfpaaaGreatDoor
open Go.RowKit Go.Sort
set_option maxHeartbeats 1600000 in
/-- .. among others. -/
theorem rhas_any (W : World) (A : Option Addr) (n c : Nat) (l : List Idt) (hs : Src W 32 A n (rowI l)) (hn : n ≤ 1099511627776) (x : Idt) :
    Calls Tryz.prog 128 #[.slice A n c, .agg (encI x).toArray] W fun e W' => e = .returned (.bool (decide (x ∈ l))) ∧ Below W.heap.size W W' := by
  obtain ⟨w1, hw1⟩ : ∃ w1, w1 = W.alloc (.cells (encI x).toArray 24) := ⟨_, rfl⟩
  have hb := (Below.refl W.heap.size W).alloc (Nat.le_refl _) (.cells (encI x).toArray 24)
  have hB := boxI_blk W x
  rw [← hw1] at hb hB
  have S1 := Lib.hid (srcI_below hs hb)
  have LN := Lib.hid (src_len hs)
  have lx := infoI x
  have HB := Lib.hid hb
  have HX := Lib.hid hB
  have LX := Lib.hid lx
  clear hs hb hB lx
  have n9 : (n : Int) ≤ 1099511627776 := by omega
  have HN := Lib.hid hn
  clear hn
  go_enter Tryz.func128, Tryz.ntmps128
  go_upto_region 1 with fail
  rw [← hw1]
  clear hw1
  generalize W.heap.size = g at HX ⊢
  go_wp2
  go_loopw [5] (fun i wr => ∃ k q : Nat, k ≤ n ∧ i = .int .i64 k ∧ wr = w1.drewN q ∧ ∀ j, j < k → l[j]! ≠ x) (fun i _ => n - (intOf i).toNat)
  case atStart => exact ⟨0, 0, by omega, rfl, rfl, fun j h => by omega⟩
  case round =>
    obtain ⟨k, q, hk, rfl, rfl, hall⟩ := hrel
    by_cases hlt : k < n
    · have l1 : (k : Int) < (n : Int) := by omega
      obtain ⟨hl, b, o, rfl, ct⟩ := src_names S1.out (by omega)
      have c1 := at_name (ct k hlt)
      have i1 := infoI l[k]!
      have heq : ∀ w, (binOp .eql 24 (.agg (encI l[k]!).toArray) (.agg (encI x).toArray)).run Tryz.prog w = .ok (.bool (decide (l[k]! = x))) w := fun w => eqlAtI.1 l[k]! x w
      have hgu : ∀ op a b w, (eqGuard op 24 a b (.agg (encI l[k]!).toArray) (.agg (encI x).toArray)).run Tryz.prog w = .ok () w := fun op a b w => eqlAtI.2 op a b l[k]! x w
      by_cases he : l[k]! = x
      · have hmem : x ∈ l := by rw [← he, getElem!_pos l k (by omega)]; exact List.getElem_mem _
        rw [decide_eq_true he] at heq
        have HM := Lib.hid hmem
        have C1 := Lib.hid c1
        have I1 := Lib.hid i1
        clear he hall ct hmem
        generalize encI l[k]! = cs at C1 I1 heq hgu
        clear c1 i1
        go_upto_region 4 with fail
        refine wp_region_quiet_lit (by kernel_rfl) (by kernel_rfl) ?_
        repeat (go_big_quiet_step (fail))
        refine wpQuiet_loadA (by rfl) 24 (.tmp 14) rfl ⟨b, o + k * 32, none⟩ rfl cs 32 5 Tryz.underlying24 I1.out (fun w ⟨m, hw⟩ => by subst hw; exact C1.out) ?_
        refine wpQuiet_loadA (by rfl) 24 (.tmp 3) rfl ⟨g, 0, none⟩ rfl (encI x) 32 5 Tryz.underlying24 LX.out (fun w ⟨m, hw⟩ j v hv => by subst hw; rw [add_row _ rfl, Nat.zero_add]; exact HX.out.cell j v hv) ?_
        quiet_step (fail)
        refine wpQuiet_nil ?_
        rintro _ ⟨n9, rfl⟩
        go_wp2
        go_ret
        exact ⟨by rw [decide_eq_true HM.out]; rfl, below_drewN' (below_drewN' HB.out _) _⟩
      · have hall' : ∀ j, j < k + 1 → l[j]! ≠ x := fun j hj => by
          rcases Nat.lt_or_ge j k with h | h
          · exact hall j h
          · rw [show j = k by omega]; exact he
        rw [decide_eq_false he] at heq
        have HA := Lib.hid hall'
        have C1 := Lib.hid c1
        have I1 := Lib.hid i1
        clear he hall ct hall'
        generalize encI l[k]! = cs at C1 I1 heq hgu
        clear c1 i1
        go_upto_region 4 with fail
        refine wp_region_quiet_lit (by kernel_rfl) (by kernel_rfl) ?_
        repeat (go_big_quiet_step (fail))
        refine wpQuiet_loadA (by rfl) 24 (.tmp 14) rfl ⟨b, o + k * 32, none⟩ rfl cs 32 5 Tryz.underlying24 I1.out (fun w ⟨m, hw⟩ => by subst hw; exact C1.out) ?_
        refine wpQuiet_loadA (by rfl) 24 (.tmp 3) rfl ⟨g, 0, none⟩ rfl (encI x) 32 5 Tryz.underlying24 LX.out (fun w ⟨m, hw⟩ j v hv => by subst hw; rw [add_row _ rfl, Nat.zero_add]; exact HX.out.cell j v hv) ?_
        quiet_step (fail)
        refine wpQuiet_nil ?_
        rintro _ ⟨n9, rfl⟩
        go_wp2
        go_roundw
        case measure => simp [intOf]; omega
        case rel => exact ⟨k + 1, q + n9, by omega, by go_num, by simp, HA.out⟩
    · have : k = n := by omega
      subst this
      have hno : ¬ x ∈ l := fun hm => by
        obtain ⟨j, hj, e⟩ := List.getElem_of_mem hm
        exact hall j (by have := LN.out; omega) (by rw [getElem!_pos l j hj]; exact e)
      have HM := Lib.hid hno
      clear hall hno
      go_wp2
      go_ret
      exact ⟨by rw [decide_eq_false HM.out]; rfl, below_drewN' HB.out _⟩
end Go.Proofs.YtpbnigpdpkfpaaaGreatDoor
