/- Entries as bytes are read back; twenty entries of numbered names. The name of a number, by the law's own function; a struct built in a region that draws. -/
import Derived.Test.YtcomibocajjhoaaGreatDoorP13x
import Derived.Test.YtcomibocajjhoaaGreatDoorTc
import Derived.Test.YtcomibocajjhoaaGreatDoorP7x
import Derived.Test.YtcomibocajjhoaaGreatDoorP6x
namespace Go.Proofs.YtcomibocajjhoaaGreatDoor
theorem nm_zero {s : List UInt8} (h : nameB s = true) : (0 : UInt8) ∉ s := by
  intro h0
  unfold nameB at h
  simp only [Bool.and_eq_true] at h
  have := List.all_eq_true.1 h.1.1.1.1 0 h0
  revert this
  decide
theorem nmLen_put : ∀ (nm r : List UInt8), (0 : UInt8) ∉ nm → nmLen (nm ++ 0 :: r) = nm.length := by
  intro nm
  induction nm with
  | nil => intro r _; simp [nmLen]
  | cons c nm ih =>
    intro r h
    have hc : c ≠ 0 := fun e => h (by rw [e]; exact List.mem_cons_self)
    have := ih r fun e => h (List.mem_cons_of_mem _ e)
    unfold nmLen at this ⊢
    rw [List.cons_append, List.takeWhile_cons_of_pos (by simpa using hc), List.length_cons, this, List.length_cons]
theorem oneT_put (e : Ent) (r : List UInt8) (h : (0 : UInt8) ∉ e.nm) : oneT (entB e ++ r) = some (e, r) := by
  obtain ⟨nm, tr, id, hid⟩ := e
  have h1 := nmLen_put nm (id ++ r) h
  have key : ∀ c : UInt8, (c = 100 ∨ c = 102) → oneT (c :: 32 :: (nm ++ 0 :: (id ++ r))) = some (⟨nm, decide (c = 100), ⟨id, hid⟩⟩, r) := by
    intro c hc
    have h2 : nmLen (nm ++ 0 :: (id ++ r)) + 33 ≤ (nm ++ 0 :: (id ++ r)).length := by
      rw [h1]; simp; omega
    have e1 : (nm ++ 0 :: (id ++ r)).take nm.length = nm := by simp
    have e2 : (nm ++ 0 :: (id ++ r)).drop (nm.length + 1) = id ++ r := by simp [List.drop_append]
    have e3 : (nm ++ 0 :: (id ++ r)).drop (nm.length + 33) = r := by
      rw [List.drop_append, List.drop_of_length_le (by omega), show nm.length + 33 - nm.length = 33 by omega, List.drop_succ_cons, List.drop_append, List.drop_of_length_le (by omega), hid]
      rfl
    have e4 : ((id ++ r).take 32 ++ List.replicate 32 0).take 32 = id := by
      have e5 : (id ++ r).take 32 = id := by rw [List.take_append_of_le_length (by omega), List.take_of_length_le (by omega)]
      rw [e5, List.take_append_of_le_length (by omega), List.take_of_length_le (by omega)]
    rw [oneT, if_pos ⟨rfl, hc, h2⟩]
    simp only [h1, e1, e2, e3, e4]
  cases tr
  · have := key 102 (.inr rfl)
    simpa [entB] using this
  · have := key 100 (.inl rfl)
    simpa [entB] using this
theorem getL_put : ∀ es : List Ent, (∀ e ∈ es, (0 : UInt8) ∉ e.nm) → getL (treeB es) = some es := by
  intro es
  induction es with
  | nil => intro _; rfl
  | cons e r ih =>
    intro h
    have e1 : treeB (e :: r) = entB e ++ treeB r := rfl
    have e2 : entB e ++ treeB r ≠ [] := fun hh => by
      have := congrArg List.length hh
      rw [List.length_append, entB_len] at this
      simp at this
    rw [e1, getL_next e2, oneT_put e _ (h e List.mem_cons_self)]
    show (getL (treeB r)).map (e :: ·) = _
    rw [ih fun x hx => h x (List.mem_cons_of_mem _ hx)]
    rfl
theorem mayT_mem {es : List Ent} (h : mayT es = true) : ∀ e ∈ es, nameB e.nm = true := by
  intro e he
  obtain ⟨i, hi, rfl⟩ := List.getElem_of_mem he
  have := mayT_name h i hi
  rwa [getElem!_pos es i hi] at this
theorem getT_put {es : List Ent} (h : mayT es = true) : getT (treeB es) = some es := by
  unfold getT
  rw [getL_put es fun e he => nm_zero (mayT_mem h e he)]
  show (if mayT es = true then some es else none) = some es
  rw [if_pos h]
/-- The name of a number. -/
def numL (i : Nat) : List UInt8 := [97 + UInt8.ofNat (i / 10), 48 + UInt8.ofNat (i % 10)]
def numE (id : Idt) (i : Nat) : Ent := ⟨numL i, decide (i % 2 = 0), id⟩
def numsE (id : Idt) (n : Nat) : List Ent := (List.range n).map (numE id)
theorem numsE_len (id : Idt) (n : Nat) : (numsE id n).length = n := by simp [numsE]
theorem numsE_at (id : Idt) (n i : Nat) (h : i < n) : (numsE id n)[i]! = numE id i := by
  rw [getElem!_pos _ i (by rw [numsE_len]; exact h)]
  simp [numsE]
theorem numsE_next (id : Idt) (n : Nat) : numsE id (n + 1) = numsE id n ++ [numE id n] := by
  simp [numsE, List.range_succ]
theorem numL_ok : ∀ i < 25, (nameB (numL i) && (decide (i = 0) || Op.bytesLess (numL (i - 1)) (numL i))) = true := by decide +kernel
theorem numL_ne : ∀ i < 25, ∀ j < i, numL j ≠ numL i := by decide +kernel
theorem numsE_may (id : Idt) (n : Nat) (h : n < 25) : mayT (numsE id n) = decide (n ≤ 20) := by
  rw [mayT_all, numsE_len]
  intro i hi
  rw [numsE_len] at hi
  unfold entOk
  have := numL_ok i (by omega)
  by_cases h0 : i = 0
  · subst h0
    rw [numsE_at id n 0 hi]
    exact this
  · rw [numsE_at id n i hi, numsE_at id n (i - 1) (by omega)]
    exact this
theorem numsE_find (id : Idt) (n i : Nat) (h : n < 25) (hi : i < n) : findE (numsE id n) (numL i) = (numE id i, true) := by
  have := findE_hit (numL i) (numsE id n) i (by rw [numsE_len]; exact hi) (by rw [numsE_at id n i hi]; rfl) fun j hj => by
    rw [numsE_at id n j (by omega)]
    exact numL_ne i (by omega) j hj
  rw [this, numsE_at id n i hi]
theorem numsE_bytes (id : Idt) (n : Nat) : (treeB (numsE id n)).length = n * 37 := by
  induction n with
  | zero => rfl
  | succ n ih =>
    rw [numsE_next, treeB_snoc, List.length_append, ih, entB_len]
    have : (numE id n).nm.length = 2 := rfl
    omega
end Go.Proofs.YtcomibocajjhoaaGreatDoor
namespace Go.Proofs.YtcomibocajjhoaaGreatDoor
open Go.RowKit
/-- A struct built, in a region that draws. -/
theorem wpQuiet_buildP {P : Program} {ops : Array Oper} {C : World → Prop} {Q : Act → Prop} {o : Oper} {rest : List Oper} {a : Act} (hgd : Region.wanted o (yielded ops a.tmps) = true) (t : TypeId) (parts : List (Nat × Operand)) (ho : o.op = .build t parts.toArray) (cs : List Value) (hb : P.built t (parts.map fun (i, x) => (i, a.eval x)) = some cs.toArray)
    (h : wpQuiet P ops C Q rest (a.put o.dst (.agg cs.toArray))) : wpQuiet P ops C Q (o :: rest) a := by
  refine wpQuiet_val hgd (.agg cs.toArray) (fun w _ => ?_) h
  have hb' : P.built t (parts.toArray.map fun (i, x) => (i, a.eval x)).toList = some cs.toArray := by rw [List.map_toArray]; exact hb
  unfold execOp
  rw [ho]
  simp only [Sem.run_bind, run_build w t _ cs.toArray hb', Result.andThen_ok, Sem.run_pure]
set_option maxRecDepth 20000 in
set_option maxHeartbeats 3200000 in
theorem num_any (W : World) (i : Nat) (hi : i < 25) : Calls Tryz.prog 15 #[.int .i64 i] W fun e W' => e = .returned (.string ⟨(numL i).toArray⟩) ∧ Below W.heap.size W W' := by
  obtain ⟨x, y, hn, hx, hy⟩ : ∃ x y : UInt8, numL i = [x, y] ∧ 97 + (i : Int) / 10 = ub x ∧ 48 + (i : Int) % 10 = ub y := by
    refine ⟨_, _, rfl, ?_, ?_⟩
    · rw [ub, UInt8.toNat_add, UInt8.toNat_ofNat']
      have : (97 : UInt8).toNat = 97 := rfl
      omega
    · rw [ub, UInt8.toNat_add, UInt8.toNat_ofNat']
      have : (48 : UInt8).toNat = 48 := rfl
      omega
  rw [hn]
  have i0 : (i : Int) < 25 := by omega
  have hs : Src (W.alloc (.cells (Bs [x, y]).toArray 5)) 1 (some ⟨W.heap.size, 0, none⟩) 2 (Bs [x, y]) := ⟨rfl, fun _ => ⟨_, rfl, fun j u hu => by
    rw [addr_row _ rfl, Nat.zero_add]
    exact (Blk.new W 5 (Bs [x, y])).cell j u hu⟩, Bs_one _⟩
  have SB := Lib.hid hs
  have LA := Lib.hid ((Below.refl W.heap.size W).alloc (Nat.le_refl _) (.cells #[.int .u8 (ub x), .int .u8 (ub y)] 5))
  clear hn hs
  go_enter Tryz.func15, Tryz.ntmps15
  go_wp2_with (refine wpl_conv rfl 24 9 _ rfl (.string ⟨#[x, y]⟩) (run_str _ (some ⟨W.heap.size, 0, none⟩) 2 2 [x, y] SB.out) ?_)
  go_ret
  exact ⟨rfl, LA.out⟩
end Go.Proofs.YtcomibocajjhoaaGreatDoor
