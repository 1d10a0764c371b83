/- Names in order, each once, in plain lists: what is sorted and cut down, what is put in one by one: one list. Trees in plain lists: names, entries, what of them may be, their bytes, and back; paths. An entry's name is what strings.Cut tells ahead of the first nought. -/
import Derived.Sort.LotA
import Derived.Lib.Bytealg
import Derived.Lib.SlicesCompact
import Derived.Shelf.SlSortCmp.Insertion
import Derived.Laws.Strings
import Derived.Lib.IndexMore
import Derived.Lib.IndexBytes
namespace Go.Proofs.YtpbnigpdpkfpaaaGreatDoor
open Go.Sort
/-- A name: thirty-two bytes. -/
abbrev Idt := { l : List UInt8 // l.length = 32 }
instance : Inhabited Idt := ⟨⟨List.replicate 32 0, rfl⟩⟩
def icmp (x y : Idt) : Int := Lib.compareBytes x.1 y.1
def ilt (x y : Idt) : Bool := ltOf icmp x y
theorem cmp_neg (a : List UInt8) : ∀ b, Lib.compareBytes b a = - Lib.compareBytes a b := by
  induction a with
  | nil => intro b; cases b <;> rfl
  | cons x a ih =>
    intro b
    cases b with
    | nil => rfl
    | cons y b =>
      unfold Lib.compareBytes
      by_cases h1 : x < y
      · have h2 : ¬ y < x := UInt8.lt_asymm h1
        simp [h1, h2]
      · by_cases h2 : y < x
        · simp [h1, h2]
        · simp only [h1, h2, if_false]
          exact ih b
theorem cmp_self (a : List UInt8) : Lib.compareBytes a a = 0 := by
  have := cmp_neg a a
  omega
theorem cmp_zero (a : List UInt8) : ∀ b, Lib.compareBytes a b = 0 → a = b := by
  induction a with
  | nil => intro b h; cases b with
    | nil => rfl
    | cons y b => simp [Lib.compareBytes] at h
  | cons x a ih =>
    intro b h
    cases b with
    | nil => simp [Lib.compareBytes] at h
    | cons y b =>
      unfold Lib.compareBytes at h
      by_cases h1 : x < y
      · simp [h1] at h
      · by_cases h2 : y < x
        · simp [h1, h2] at h
        · simp only [h1, h2, if_false] at h
          rw [ih b h, UInt8.le_antisymm (UInt8.not_lt.1 h2) (UInt8.not_lt.1 h1)]
theorem cmp_trans (a : List UInt8) : ∀ b c, Lib.compareBytes a b < 0 → Lib.compareBytes b c < 0 → Lib.compareBytes a c < 0 := by
  induction a with
  | nil => intro b c h1 h2; cases b with
    | nil => exact h2
    | cons y b => cases c with
      | nil => simp [Lib.compareBytes] at h2
      | cons z c => simp [Lib.compareBytes]
  | cons x a ih =>
    intro b c h1 h2
    cases b with
    | nil => simp [Lib.compareBytes] at h1
    | cons y b => cases c with
      | nil => simp [Lib.compareBytes] at h2
      | cons z c =>
        unfold Lib.compareBytes at h1 h2 ⊢
        by_cases a1 : x < y
        · by_cases b1 : y < z
          · rw [if_pos (UInt8.lt_trans a1 b1)]; omega
          · by_cases b2 : z < y
            · simp [b1, b2] at h2
            · have : y = z := UInt8.le_antisymm (UInt8.not_lt.1 b2) (UInt8.not_lt.1 b1)
              subst this
              rw [if_pos a1]; omega
        · by_cases a2 : y < x
          · simp [a1, a2] at h1
          · have : x = y := UInt8.le_antisymm (UInt8.not_lt.1 a2) (UInt8.not_lt.1 a1)
            subst this
            simp only [a1, if_false] at h1
            by_cases b1 : x < z
            · rw [if_pos b1]; omega
            · by_cases b2 : z < x
              · simp [b1, b2] at h2
              · simp only [b1, b2, if_false] at h2 ⊢
                exact ih b c h1 h2
theorem ilt_iff (x y : Idt) : ilt x y = true ↔ Lib.compareBytes x.1 y.1 < 0 := by unfold ilt ltOf icmp; simp
theorem ilt_not (x y : Idt) : ilt x y = false ↔ 0 ≤ Lib.compareBytes x.1 y.1 := by unfold ilt ltOf icmp; simp
theorem ilt_irrefl (x : Idt) : ilt x x = false := by rw [ilt_not, cmp_self]; omega
theorem ilt_trans {x y z : Idt} (h1 : ilt x y = true) (h2 : ilt y z = true) : ilt x z = true := by
  rw [ilt_iff] at *; exact cmp_trans _ _ _ h1 h2
theorem ilt_total (x y : Idt) (h1 : ilt x y = false) (h2 : ilt y x = false) : x = y := by
  rw [ilt_not] at h1 h2
  rw [cmp_neg] at h2
  exact Subtype.ext (cmp_zero _ _ (by omega))
theorem ilt_asymm {x y : Idt} (h1 : ilt x y = true) : ilt y x = false := by
  rw [ilt_iff] at h1; rw [ilt_not, cmp_neg]; omega
theorem ilt_swo : SWO ilt where
  irrefl := ilt_irrefl
  trans _ _ _ h1 h2 := ilt_trans h1 h2
  ntrans x y z h1 h2 := by
    cases h3 : ilt x z
    · rfl
    · cases h4 : ilt y x
      · have := ilt_total x y h1 h4
        subst this
        rw [h3] at h2; cases h2
      · rw [ilt_trans h4 h3] at h2; cases h2
/-- Rising. -/
def Rises (l : List Idt) : Prop := l.Pairwise fun x y => ilt x y = true
theorem rises_ext : ∀ (l m : List Idt), Rises l → Rises m → (∀ x, x ∈ l ↔ x ∈ m) → l = m
  | [], [], _, _, _ => rfl
  | [], b :: m, _, _, h => absurd ((h b).2 List.mem_cons_self) (by simp)
  | a :: l, [], _, _, h => absurd ((h a).1 List.mem_cons_self) (by simp)
  | a :: l, b :: m, h1, h2, h => by
    obtain ⟨h1a, h1l⟩ := List.pairwise_cons.1 h1
    obtain ⟨h2b, h2m⟩ := List.pairwise_cons.1 h2
    have hab : a = b := by
      rcases List.mem_cons.1 ((h a).1 List.mem_cons_self) with e | e
      · exact e
      · rcases List.mem_cons.1 ((h b).2 List.mem_cons_self) with e' | e'
        · exact e'.symm
        · have := ilt_asymm (h2b a e); rw [h1a b e'] at this; cases this
    subst hab
    rw [rises_ext l m h1l h2m fun x => ?_]
    constructor
    · intro hx
      rcases List.mem_cons.1 ((h x).1 (List.mem_cons_of_mem _ hx)) with e | e
      · subst e; have := h1a x hx; rw [ilt_irrefl] at this; cases this
      · exact e
    · intro hx
      rcases List.mem_cons.1 ((h x).2 (List.mem_cons_of_mem _ hx)) with e | e
      · subst e; have := h2b x hx; rw [ilt_irrefl] at this; cases this
      · exact e
/-- What stands of a row that does not fall, each once. -/
theorem compact_rises (d : Array Idt) (hs : ∀ i j, i < j → j < d.size → ilt d[j]! d[i]! = false) : ∀ m, m ≤ d.size → Rises (Lib.compactUpTo d m) ∧ ∀ x, x ∈ Lib.compactUpTo d m ↔ ∃ j, j < m ∧ d[j]! = x := by
  intro m
  induction m with
  | zero => intro _; exact ⟨List.Pairwise.nil, fun x => ⟨fun h => by simp [Lib.compactUpTo] at h, fun ⟨j, h, _⟩ => by omega⟩⟩
  | succ m ih =>
    intro hm
    obtain ⟨h1, h2⟩ := ih (by omega)
    rw [Lib.compactUpTo_succ]
    by_cases hk : Lib.keeps d m = true
    · rw [if_pos hk]
      have hlt : ∀ x ∈ Lib.compactUpTo d m, ilt x d[m]! = true := by
        intro x hx
        obtain ⟨j, hj, rfl⟩ := (h2 x).1 hx
        have hk' := of_decide_eq_true hk
        have hne : d[m]! ≠ d[m - 1]! := hk'.resolve_left (by omega)
        have hm1 : ilt d[m - 1]! d[m]! = true := by
          cases hc : ilt d[m - 1]! d[m]!
          · exact absurd (ilt_total _ _ (hs (m - 1) m (by omega) (by omega)) hc) hne
          · rfl
        rcases Nat.lt_or_ge j (m - 1) with hj1 | hj1
        · cases hc : ilt d[j]! d[m]!
          · have h3 := hs j (m - 1) hj1 (by omega)
            have h4 := ilt_swo.ntrans _ _ _ h3 hc
            rw [hm1] at h4; cases h4
          · rfl
        · rw [show j = m - 1 by omega]; exact hm1
      refine ⟨List.pairwise_append.2 ⟨h1, List.pairwise_singleton _ _, fun a ha b hb => by rw [List.mem_singleton.1 hb]; exact hlt a ha⟩, fun x => ?_⟩
      rw [List.mem_append, h2, List.mem_singleton]
      constructor
      · rintro (⟨j, hj, e⟩ | rfl)
        · exact ⟨j, by omega, e⟩
        · exact ⟨m, by omega, rfl⟩
      · rintro ⟨j, hj, e⟩
        rcases Nat.lt_or_ge j m with h | h
        · exact .inl ⟨j, h, e⟩
        · rw [show j = m by omega] at e; exact .inr e.symm
    · rw [if_neg hk, List.append_nil]
      refine ⟨h1, fun x => ?_⟩
      rw [h2]
      constructor
      · rintro ⟨j, hj, e⟩; exact ⟨j, by omega, e⟩
      · rintro ⟨j, hj, e⟩
        rcases Nat.lt_or_ge j m with h | h
        · exact ⟨j, h, e⟩
        · have hk' : ¬ (m = 0 ∨ d[m]! ≠ d[m - 1]!) := fun hh => hk (decide_eq_true hh)
          have hm0 : m ≠ 0 := fun e => hk' (.inl e)
          have he : d[m]! = d[m - 1]! := Classical.byContradiction fun hh => hk' (.inr hh)
          exact ⟨m - 1, by omega, by rw [← he, ← e, show j = m by omega]⟩
/-- What oid.Sort makes of names. -/
def sortI (l : List Idt) : List Idt := Lib.compactUpTo (l.mergeSort fun x y => !ilt y x).toArray (l.mergeSort fun x y => !ilt y x).toArray.size
theorem sortI_holds (l : List Idt) : Rises (sortI l) ∧ ∀ x, x ∈ sortI l ↔ x ∈ l := by
  have hp : (l.mergeSort fun x y => !ilt y x).Pairwise fun x y => (!ilt y x) = true := List.pairwise_mergeSort
    (fun a b c h1 h2 => by simp at h1 h2 ⊢; exact ilt_swo.ntrans _ _ _ h2 h1) (fun a b => by
      cases h : ilt b a
      · rfl
      · rw [ilt_asymm h]; rfl) l
  have hq : ∀ i j, i < j → j < (l.mergeSort fun x y => !ilt y x).toArray.size → ilt (l.mergeSort fun x y => !ilt y x).toArray[j]! (l.mergeSort fun x y => !ilt y x).toArray[i]! = false := by
    intro i j hij hj
    rw [List.size_toArray] at hj
    have := List.pairwise_iff_getElem.1 hp i j (by omega) hj hij
    rw [getElem!_pos _ j (by simpa using hj), getElem!_pos _ i (by simp; simp at hj; omega)]
    simpa using this
  obtain ⟨h1, h2⟩ := compact_rises _ hq _ (Nat.le_refl _)
  refine ⟨h1, fun x => (h2 x).trans ?_⟩
  rw [← List.mem_mergeSort (le := fun x y => !ilt y x) (l := l)]
  constructor
  · rintro ⟨j, hj, rfl⟩
    rw [getElem!_pos _ j hj, List.getElem_toArray]
    exact List.getElem_mem _
  · intro h
    obtain ⟨j, hj, e⟩ := List.getElem_of_mem h
    refine ⟨j, by simpa using hj, ?_⟩
    rw [getElem!_pos _ j (by simpa using hj), List.getElem_toArray]
    exact e
theorem sortI_len (l : List Idt) : (sortI l).length ≤ l.length := by
  unfold sortI Lib.compactUpTo
  rw [List.length_map]
  refine Nat.le_trans (List.length_filter_le _ _) ?_
  simp
/-- A name put in. -/
def insI : List Idt → Idt → List Idt
  | [], x => [x]
  | y :: r, x => if ilt y x then y :: insI r x else if y = x then y :: r else x :: y :: r
theorem insI_mem (l : List Idt) (x z : Idt) : z ∈ insI l x ↔ z ∈ l ∨ z = x := by
  induction l with
  | nil => simp [insI]
  | cons y r ih =>
    unfold insI
    split
    · rw [List.mem_cons, ih, List.mem_cons, or_assoc]
    · split
      · rename_i e
        subst e
        constructor
        · intro h; exact .inl h
        · rintro (h | rfl)
          · exact h
          · exact List.mem_cons_self
      · simp only [List.mem_cons]
        constructor
        · rintro (h | h | h)
          · exact .inr h
          · exact .inl (.inl h)
          · exact .inl (.inr h)
        · rintro ((h | h) | h)
          · exact .inr (.inl h)
          · exact .inr (.inr h)
          · exact .inl h
theorem insI_rises (l : List Idt) (x : Idt) (h : Rises l) : Rises (insI l x) := by
  induction l with
  | nil => exact List.pairwise_singleton _ _
  | cons y r ih =>
    obtain ⟨h1, h2⟩ := List.pairwise_cons.1 h
    unfold insI
    split
    · rename_i hlt
      refine List.pairwise_cons.2 ⟨fun z hz => ?_, ih h2⟩
      rcases (insI_mem r x z).1 hz with h3 | rfl
      · exact h1 z h3
      · exact hlt
    · rename_i hlt
      split
      · exact h
      · rename_i hne
        have hxy : ilt x y = true := by
          cases hc : ilt x y
          · exact absurd (ilt_total y x (by simpa using hlt) hc) hne
          · rfl
        refine List.pairwise_cons.2 ⟨fun z hz => ?_, h⟩
        rcases List.mem_cons.1 hz with rfl | h3
        · exact hxy
        · exact ilt_trans hxy (h1 z h3)
/-- Names put in, one by one. -/
def putI (l : List Idt) : List Idt := l.foldl insI []
theorem fold_holds (l : List Idt) : ∀ a, Rises a → Rises (l.foldl insI a) ∧ ∀ x, x ∈ l.foldl insI a ↔ x ∈ a ∨ x ∈ l := by
  induction l with
  | nil => intro a h; exact ⟨h, fun x => by simp⟩
  | cons y r ih =>
    intro a h
    obtain ⟨h1, h2⟩ := ih (insI a y) (insI_rises a y h)
    refine ⟨h1, fun x => (h2 x).trans ?_⟩
    rw [insI_mem, List.mem_cons, or_assoc]
theorem putI_eq (l : List Idt) : putI l = sortI l := by
  obtain ⟨h1, h2⟩ := fold_holds l [] List.Pairwise.nil
  exact rises_ext _ _ h1 (sortI_holds l).1 fun x => (h2 x).trans (by rw [(sortI_holds l).2]; simp)
theorem putI_snoc (l : List Idt) (x : Idt) : putI (l ++ [x]) = insI (putI l) x := by simp [putI, List.foldl_append]
end Go.Proofs.YtpbnigpdpkfpaaaGreatDoor
namespace Go.Proofs.YtpbnigpdpkfpaaaGreatDoor
def letterB (c : UInt8) : Bool := decide (97 ≤ c.toNat) && decide (c.toNat ≤ 122) || decide (48 ≤ c.toNat) && decide (c.toNat ≤ 57) || c == 46 || c == 45 || c == 95
/-- May it be a name? -/
def nameB (s : List UInt8) : Bool := s.all letterB && decide (1 ≤ s.length) && decide (s.length ≤ 20) && !(s == [46]) && !(s == [46, 46])
/-- An entry of a tree. -/
structure Ent where
  nm : List UInt8
  tr : Bool
  id : Idt
deriving DecidableEq
instance : Inhabited Ent := ⟨⟨[], false, default⟩⟩
/-- Is entry i right beside the one ahead? -/
def entOk (es : List Ent) (i : Nat) : Bool := nameB es[i]!.nm && (decide (i = 0) || Op.bytesLess es[i - 1]!.nm es[i]!.nm)
def mayT (es : List Ent) : Bool := (List.range es.length).all (entOk es) && decide (es.length ≤ 20)
theorem mayT_miss {es : List Ent} {i : Nat} (hi : i < es.length) (h : entOk es i = false) : mayT es = false := by
  unfold mayT
  have : (List.range es.length).all (entOk es) = false := by
    rw [Bool.eq_false_iff]
    intro hh
    rw [List.all_eq_true.1 hh i (List.mem_range.2 hi)] at h
    cases h
  rw [this]; rfl
theorem mayT_all {es : List Ent} (h : ∀ i, i < es.length → entOk es i = true) : mayT es = decide (es.length ≤ 20) := by
  unfold mayT
  rw [List.all_eq_true.2 fun i hi => h i (List.mem_range.1 hi), Bool.true_and]
theorem mayT_len {es : List Ent} (h : mayT es = true) : es.length ≤ 20 := by
  unfold mayT at h
  rw [Bool.and_eq_true] at h
  exact of_decide_eq_true h.2
theorem mayT_name {es : List Ent} (h : mayT es = true) (i : Nat) (hi : i < es.length) : nameB es[i]!.nm = true := by
  unfold mayT at h
  rw [Bool.and_eq_true] at h
  have := List.all_eq_true.1 h.1 i (List.mem_range.2 hi)
  unfold entOk at this
  rw [Bool.and_eq_true] at this
  exact this.1
theorem nameB_len {s : List UInt8} (h : nameB s = true) : s.length ≤ 20 := by
  unfold nameB at h
  simp only [Bool.and_eq_true, decide_eq_true_eq] at h
  exact h.1.1.2
/-- An entry's bytes. -/
def entB (e : Ent) : List UInt8 := (if e.tr then [100, 32] else [102, 32]) ++ e.nm ++ [0] ++ e.id.1
def treeB (es : List Ent) : List UInt8 := es.flatMap entB
theorem treeB_snoc (es : List Ent) (e : Ent) : treeB (es ++ [e]) = treeB es ++ entB e := by simp [treeB]
theorem entB_len (e : Ent) : (entB e).length = e.nm.length + 35 := by
  unfold entB
  have := e.id.2
  cases e.tr <;> simp <;> omega
theorem treeB_len (es : List Ent) (h : ∀ e ∈ es, e.nm.length ≤ 20) : (treeB es).length ≤ es.length * 55 := by
  induction es with
  | nil => simp [treeB]
  | cons e r ih =>
    unfold treeB at ih ⊢
    rw [List.flatMap_cons, List.length_append, entB_len, List.length_cons]
    have h1 := h e List.mem_cons_self
    have h2 := ih fun x hx => h x (List.mem_cons_of_mem _ hx)
    omega
/-- Where a name ends. -/
def nmLen (r : List UInt8) : Nat := (r.takeWhile (· ≠ 0)).length
/-- The first entry of bytes, and what is behind it. -/
def oneT : List UInt8 → Option (Ent × List UInt8)
  | c :: d :: r =>
    if d = 32 ∧ (c = 100 ∨ c = 102) ∧ nmLen r + 33 ≤ r.length then
      some (⟨r.take (nmLen r), decide (c = 100), ⟨((r.drop (nmLen r + 1)).take 32 ++ List.replicate 32 0).take 32, by simp⟩⟩, r.drop (nmLen r + 33))
    else none
  | _ => none
theorem oneT_len {s r : List UInt8} {e : Ent} (h : oneT s = some (e, r)) : r.length + 35 ≤ s.length := by
  cases s with
  | nil => simp [oneT] at h
  | cons c s =>
    cases s with
    | nil => simp [oneT] at h
    | cons d t =>
      rw [oneT] at h
      by_cases hc : d = 32 ∧ (c = 100 ∨ c = 102) ∧ nmLen t + 33 ≤ t.length
      · rw [if_pos hc] at h
        injection h with h
        injection h with _ h
        subst h
        have := hc.2.2
        simp only [List.length_drop, List.length_cons]
        omega
      · rw [if_neg hc] at h
        cases h
/-- All of them. -/
def getF : Nat → List UInt8 → Option (List Ent)
  | _, [] => some []
  | 0, _ :: _ => none
  | n + 1, c :: s => match oneT (c :: s) with
    | none => none
    | some (e, r) => (getF n r).map (e :: ·)
theorem getF_more : ∀ (n m : Nat) (s : List UInt8), s.length ≤ n → s.length ≤ m → getF n s = getF m s := by
  intro n
  induction n with
  | zero =>
    intro m s h _
    have : s = [] := List.eq_nil_of_length_eq_zero (by omega)
    subst this
    cases m <;> rfl
  | succ n ih =>
    intro m s h1 h2
    cases s with
    | nil => cases m <;> rfl
    | cons c s =>
      cases m with
      | zero => simp at h2
      | succ m =>
        show (match oneT (c :: s) with | none => none | some (e, r) => (getF n r).map (e :: ·)) = (match oneT (c :: s) with | none => none | some (e, r) => (getF m r).map (e :: ·))
        cases ho : oneT (c :: s) with
        | none => rfl
        | some p =>
          obtain ⟨e, r⟩ := p
          have := oneT_len ho
          simp only [List.length_cons] at this h1 h2
          show (getF n r).map (e :: ·) = (getF m r).map (e :: ·)
          rw [ih m r (by omega) (by omega)]
def getL (s : List UInt8) : Option (List Ent) := getF s.length s
theorem getL_next {s : List UInt8} (h : s ≠ []) : getL s = match oneT s with | none => none | some (e, r) => (getL r).map (e :: ·) := by
  cases s with
  | nil => exact absurd rfl h
  | cons c s =>
    show getF (s.length + 1) (c :: s) = _
    show (match oneT (c :: s) with | none => none | some (e, r) => (getF s.length r).map (e :: ·)) = _
    cases ho : oneT (c :: s) with
    | none => rfl
    | some p =>
      obtain ⟨e, r⟩ := p
      have := oneT_len ho
      simp only [List.length_cons] at this
      show (getF s.length r).map (e :: ·) = (getF r.length r).map (e :: ·)
      rw [getF_more s.length r.length r (by omega) (Nat.le_refl _)]
/-- A tree's entries from its bytes. -/
def getT (s : List UInt8) : Option (List Ent) := (getL s).bind fun es => if mayT es = true then some es else none
end Go.Proofs.YtpbnigpdpkfpaaaGreatDoor
namespace Go.Proofs.YtpbnigpdpkfpaaaGreatDoor
theorem nmLen_le (r : List UInt8) : nmLen r ≤ r.length := by
  unfold nmLen
  exact (List.takeWhile_prefix _).length_le
theorem indexByte_nm (r : List UInt8) : Lib.indexByte r 0 = if nmLen r < r.length then (nmLen r : Int) else -1 := by
  induction r with
  | nil => rfl
  | cons c r ih =>
    unfold Lib.indexByte
    by_cases h : c = 0
    · subst h
      have e : nmLen (0 :: r) = 0 := by simp [nmLen]
      rw [e]
      simp
    · have e : nmLen (c :: r) = nmLen r + 1 := by simp [nmLen, h]
      have hb : (c == 0) = false := by simpa using h
      rw [hb, e, ih]
      simp only [Bool.false_eq_true, if_false, List.length_cons]
      by_cases h2 : nmLen r < r.length
      · have h3 : nmLen r + 1 < r.length + 1 := by omega
        have h4 : ((nmLen r : Int) == -1) = false := by simp
        rw [if_pos h2, if_pos h3, h4]
        simp
      · have h3 : ¬ nmLen r + 1 < r.length + 1 := by omega
        rw [if_neg h2, if_neg h3]
        rfl
theorem cut_nm (r : List UInt8) : Lib.cut r [0] = if nmLen r < r.length then (r.take (nmLen r), r.drop (nmLen r + 1), true) else (r, [], false) := by
  unfold Lib.cut
  rw [Lib.index_one, indexByte_nm]
  by_cases h : nmLen r < r.length
  · rw [if_pos h, if_pos h, if_pos (by omega)]
    simp
  · rw [if_neg h, if_neg h]
    rfl
end Go.Proofs.YtpbnigpdpkfpaaaGreatDoor
