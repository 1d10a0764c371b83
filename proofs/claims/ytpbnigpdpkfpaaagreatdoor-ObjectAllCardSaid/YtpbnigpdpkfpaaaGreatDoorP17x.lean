/- Entries as bytes are read back; twenty entries of numbered names. Bytes that are read as a tree are that tree's bytes. -/
import Derived.Test.YtpbnigpdpkfpaaaGreatDoorP7x
import Derived.Test.YtpbnigpdpkfpaaaGreatDoorP4x
namespace Go.Proofs.YtpbnigpdpkfpaaaGreatDoor
theorem nm_zero {s : List UInt8} (h : nameB s = true) : (0 : UInt8) ∉ s := by
  intro h0
  unfold nameB at h
  simp only [Bool.and_eq_true] at h
  have := List.all_eq_true.1 h.1.1.1.1 0 h0
  revert this
  decide
theorem nmLen_put : ∀ (nm r : List UInt8), (0 : UInt8) ∉ nm → nmLen (nm ++ 0 :: r) = nm.length := by
  intro nm
  induction nm with
  | nil => intro r _; simp [nmLen]
  | cons c nm ih =>
    intro r h
    have hc : c ≠ 0 := fun e => h (by rw [e]; exact List.mem_cons_self)
    have := ih r fun e => h (List.mem_cons_of_mem _ e)
    unfold nmLen at this ⊢
    rw [List.cons_append, List.takeWhile_cons_of_pos (by simpa using hc), List.length_cons, this, List.length_cons]
theorem oneT_put (e : Ent) (r : List UInt8) (h : (0 : UInt8) ∉ e.nm) : oneT (entB e ++ r) = some (e, r) := by
  obtain ⟨nm, tr, id, hid⟩ := e
  have h1 := nmLen_put nm (id ++ r) h
  have key : ∀ c : UInt8, (c = 100 ∨ c = 102) → oneT (c :: 32 :: (nm ++ 0 :: (id ++ r))) = some (⟨nm, decide (c = 100), ⟨id, hid⟩⟩, r) := by
    intro c hc
    have h2 : nmLen (nm ++ 0 :: (id ++ r)) + 33 ≤ (nm ++ 0 :: (id ++ r)).length := by
      rw [h1]; simp; omega
    have e1 : (nm ++ 0 :: (id ++ r)).take nm.length = nm := by simp
    have e2 : (nm ++ 0 :: (id ++ r)).drop (nm.length + 1) = id ++ r := by simp [List.drop_append]
    have e3 : (nm ++ 0 :: (id ++ r)).drop (nm.length + 33) = r := by
      rw [List.drop_append, List.drop_of_length_le (by omega), show nm.length + 33 - nm.length = 33 by omega, List.drop_succ_cons, List.drop_append, List.drop_of_length_le (by omega), hid]
      rfl
    have e4 : ((id ++ r).take 32 ++ List.replicate 32 0).take 32 = id := by
      have e5 : (id ++ r).take 32 = id := by rw [List.take_append_of_le_length (by omega), List.take_of_length_le (by omega)]
      rw [e5, List.take_append_of_le_length (by omega), List.take_of_length_le (by omega)]
    rw [oneT, if_pos ⟨rfl, hc, h2⟩]
    simp only [h1, e1, e2, e3, e4]
  cases tr
  · have := key 102 (.inr rfl)
    simpa [entB] using this
  · have := key 100 (.inl rfl)
    simpa [entB] using this
theorem getL_put : ∀ es : List Ent, (∀ e ∈ es, (0 : UInt8) ∉ e.nm) → getL (treeB es) = some es := by
  intro es
  induction es with
  | nil => intro _; rfl
  | cons e r ih =>
    intro h
    have e1 : treeB (e :: r) = entB e ++ treeB r := rfl
    have e2 : entB e ++ treeB r ≠ [] := fun hh => by
      have := congrArg List.length hh
      rw [List.length_append, entB_len] at this
      simp at this
    rw [e1, getL_next e2, oneT_put e _ (h e List.mem_cons_self)]
    show (getL (treeB r)).map (e :: ·) = _
    rw [ih fun x hx => h x (List.mem_cons_of_mem _ hx)]
    rfl
theorem mayT_mem {es : List Ent} (h : mayT es = true) : ∀ e ∈ es, nameB e.nm = true := by
  intro e he
  obtain ⟨i, hi, rfl⟩ := List.getElem_of_mem he
  have := mayT_name h i hi
  rwa [getElem!_pos es i hi] at this
theorem getT_put {es : List Ent} (h : mayT es = true) : getT (treeB es) = some es := by
  unfold getT
  rw [getL_put es fun e he => nm_zero (mayT_mem h e he)]
  show (if mayT es = true then some es else none) = some es
  rw [if_pos h]
/-- The name of a number. -/
def numL (i : Nat) : List UInt8 := [97 + UInt8.ofNat (i / 10), 48 + UInt8.ofNat (i % 10)]
def numE (id : Idt) (i : Nat) : Ent := ⟨numL i, decide (i % 2 = 0), id⟩
def numsE (id : Idt) (n : Nat) : List Ent := (List.range n).map (numE id)
end Go.Proofs.YtpbnigpdpkfpaaaGreatDoor
namespace Go.Proofs.YtpbnigpdpkfpaaaGreatDoor
theorem nm_split : ∀ {r : List UInt8}, nmLen r < r.length → r = r.take (nmLen r) ++ 0 :: r.drop (nmLen r + 1) := by
  intro r
  induction r with
  | nil => intro h; simp at h
  | cons c r ih =>
    intro h
    by_cases hc : c = 0
    · subst hc
      have e : nmLen (0 :: r) = 0 := by simp [nmLen]
      simp [e]
    · have e : nmLen (c :: r) = nmLen r + 1 := by simp [nmLen, hc]
      rw [e, List.length_cons] at h
      have := ih (by omega)
      rw [e]
      show c :: r = c :: (r.take (nmLen r) ++ 0 :: r.drop (nmLen r + 1))
      rw [← this]
theorem oneT_back {s r : List UInt8} {e : Ent} (h : oneT s = some (e, r)) : s = entB e ++ r := by
  match s with
  | [] => simp [oneT] at h
  | [c] => simp [oneT] at h
  | c :: d :: t =>
    rw [oneT] at h
    by_cases hc : d = 32 ∧ (c = 100 ∨ c = 102) ∧ nmLen t + 33 ≤ t.length
    · rw [if_pos hc] at h
      obtain ⟨rfl, hcd, hl⟩ := hc
      have h := Option.some.inj h
      obtain ⟨h1, h2⟩ := Prod.mk.inj h
      have ht := nm_split (r := t) (by omega)
      have hd : (t.drop (nmLen t + 1)).length ≥ 32 := by rw [List.length_drop]; omega
      have hid : ((t.drop (nmLen t + 1)).take 32 ++ List.replicate 32 0).take 32 = (t.drop (nmLen t + 1)).take 32 := by
        have h5 : ((t.drop (nmLen t + 1)).take 32).length = 32 := by rw [List.length_take]; omega
        rw [List.take_append_of_le_length (by omega), List.take_of_length_le (l := (t.drop (nmLen t + 1)).take 32) (by omega)]
      have hr : t.drop (nmLen t + 1) = (t.drop (nmLen t + 1)).take 32 ++ r := by
        rw [← h2]
        conv => lhs; rw [← List.take_append_drop 32 (t.drop (nmLen t + 1)), List.drop_drop]
      have hb : entB e = (if c = 100 then [100, 32] else [102, 32]) ++ t.take (nmLen t) ++ [0] ++ (t.drop (nmLen t + 1)).take 32 := by
        rw [← h1]
        unfold entB
        simp only [hid, decide_eq_true_eq]
      rw [hb]
      have hx : (c :: 32 :: t : List UInt8) = (if c = 100 then [100, 32] else [102, 32]) ++ t := by
        rcases hcd with rfl | rfl
        · rfl
        · rfl
      rw [hx]
      conv => lhs; rw [ht, hr]
      simp [List.append_assoc]
    · rw [if_neg hc] at h
      cases h
theorem getF_back : ∀ (n : Nat) (s : List UInt8) (es : List Ent), getF n s = some es → treeB es = s := by
  intro n
  induction n with
  | zero =>
    intro s es h
    cases s with
    | nil => simp only [getF, Option.some.injEq] at h; subst h; rfl
    | cons c s => simp [getF] at h
  | succ n ih =>
    intro s es h
    cases s with
    | nil => simp only [getF, Option.some.injEq] at h; subst h; rfl
    | cons c s =>
      have h2 : (match oneT (c :: s) with | none => none | some (e, r) => (getF n r).map (e :: ·)) = some es := h
      cases ho : oneT (c :: s) with
      | none => rw [ho] at h2; cases h2
      | some p =>
        obtain ⟨e, r⟩ := p
        rw [ho] at h2
        simp only [Option.map_eq_some_iff] at h2
        obtain ⟨l, hl, rfl⟩ := h2
        rw [oneT_back ho, ← ih r l hl]
        rfl
theorem getT_back {s : List UInt8} {es : List Ent} (h : getT s = some es) : treeB es = s ∧ mayT es = true := by
  unfold getT at h
  cases hl : getL s with
  | none => rw [hl] at h; cases h
  | some l =>
    rw [hl] at h
    have h2 : (if mayT l = true then some l else none) = some es := h
    by_cases hm : mayT l = true
    · rw [if_pos hm] at h2
      rw [← Option.some.inj h2]
      exact ⟨getF_back _ _ _ hl, hm⟩
    · rw [if_neg hm] at h2
      cases h2
end Go.Proofs.YtpbnigpdpkfpaaaGreatDoor
