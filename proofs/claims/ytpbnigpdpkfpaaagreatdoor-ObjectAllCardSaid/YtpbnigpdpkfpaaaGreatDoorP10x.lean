/- Commits in plain lists: which may be, their text; what the program and the document read of a text. No two alike among names: by sorting them, by looking back from each. Objects in plain lists: which may be, their bytes, their links; what is read of bytes. Parts of a path, in plain lists: split at once, or built sign by sign. ref5.word: what stands behind a word in the first line; the rest. -/
import Derived.Test.YtpbnigpdpkfpaaaGreatDoorP9x
import Derived.Test.YtpbnigpdpkfpaaaGreatDoorP4x
import Derived.Test.YtpbnigpdpkfpaaaGreatDoorP3x
import Derived.Lib.IndexMore
import Derived.Lib.IndexBytes
import Derived.Lib.SplitLaws
import Derived.Lib.Split
import Derived.OwnWalk
namespace Go.Proofs.YtpbnigpdpkfpaaaGreatDoor
structure Com where
  tree : Idt
  ps : List Idt
  wh : Nat
  note : List UInt8
deriving DecidableEq
def noCom : Com := ⟨default, [], 0, []⟩
def mayC (c : Com) : Bool := decide (c.ps.length ≤ 4) && decide (c.note.length ≤ 100) && decide ((sortI c.ps).length = c.ps.length) && fmay c.wh
def treeW : List UInt8 := [116, 114, 101, 101, 32]
def parW : List UInt8 := [112, 97, 114, 101, 110, 116, 32]
def whenW : List UInt8 := [119, 104, 101, 110, 32]
def parB (p : Idt) : List UInt8 := parW ++ hexL p.1 ++ [10]
def parsB (ps : List Idt) : List UInt8 := ps.flatMap parB
theorem parsB_snoc (ps : List Idt) (p : Idt) : parsB (ps ++ [p]) = parsB ps ++ parB p := by simp [parsB]
/-- A commit's text. -/
def commitB (c : Com) : List UInt8 := treeW ++ hexL c.tree.1 ++ [10] ++ parsB c.ps ++ whenW ++ wput c.wh ++ [10, 10] ++ c.note
/-- Parts, a sign between them. -/
def joinS (d : UInt8) : List (List UInt8) → List UInt8
  | [] => []
  | [l] => l
  | l :: r => l ++ d :: joinS d r
/-- Lines, a newline between them. -/
abbrev joinN := joinS 10
theorem joinS_cons (d : UInt8) (l : List UInt8) {r : List (List UInt8)} (h : r ≠ []) : joinS d (l :: r) = l ++ d :: joinS d r := by
  cases r with
  | nil => exact absurd rfl h
  | cons x r => rfl
theorem joinN_cons (l : List UInt8) {r : List (List UInt8)} (h : r ≠ []) : joinN (l :: r) = l ++ 10 :: joinN r := joinS_cons 10 l h
theorem indexByte_line (d : UInt8) (l r : List UInt8) (h : d ∉ l) : Lib.indexByte (l ++ d :: r) d = l.length := by
  induction l with
  | nil => simp [Lib.indexByte]
  | cons c l ih =>
    rw [List.mem_cons, not_or] at h
    have hc : (c == d) = false := by simpa using fun e => h.1 (Eq.symm e)
    rw [List.cons_append, Lib.indexByte, hc, ih h.2]
    have : ((l.length : Int) == -1) = false := by simp
    rw [this]
    simp
theorem splitK_join (d : UInt8) : ∀ (L : List (List UInt8)), L ≠ [] → (∀ l ∈ L, d ∉ l) → Lib.splitK [d] 0 (L.length - 1) (joinS d L) = L
  | [], h, _ => absurd rfl h
  | [l], _, _ => rfl
  | l :: m :: r, _, h => by
    have ih := splitK_join d (m :: r) (by simp) (fun x hx => h x (List.mem_cons_of_mem _ hx))
    rw [joinS_cons d l (by simp)]
    show Lib.splitK [d] 0 ((m :: r).length - 1 + 1) _ = _
    rw [Lib.splitK, Lib.index_one, indexByte_line d _ _ (h l List.mem_cons_self)]
    have : ((l.length : Int) == -1) = false := by simp
    rw [this]
    simp only [Bool.false_eq_true, if_false, Int.toNat_natCast, Nat.add_zero, List.length_cons, List.length_nil, Nat.zero_add]
    rw [List.take_left, List.drop_append, List.drop_of_length_le (by omega), Nat.add_sub_cancel_left]
    simp only [List.nil_append, List.drop_succ_cons, List.drop_zero]
    exact congrArg (l :: ·) ih
theorem count_join (d : UInt8) : ∀ (L : List (List UInt8)), L ≠ [] → (∀ l ∈ L, d ∉ l) → (joinS d L).count d = L.length - 1
  | [], h, _ => absurd rfl h
  | [l], _, h => List.count_eq_zero.2 (h l List.mem_cons_self)
  | l :: m :: r, _, h => by
    have ih := count_join d (m :: r) (by simp) (fun x hx => h x (List.mem_cons_of_mem _ hx))
    rw [joinS_cons d l (by simp), List.count_append, List.count_cons_self, ih, List.count_eq_zero.2 (h l List.mem_cons_self)]
    simp
theorem split_join (d : UInt8) (L : List (List UInt8)) (h0 : L ≠ []) (h : ∀ l ∈ L, d ∉ l) : Lib.split (joinS d L) [d] = L := by
  unfold Lib.split
  rw [Lib.count_one, count_join d L h0 h]
  exact splitK_join d L h0 h
/-- Where the first empty line stands. -/
theorem index_line (l x : List UInt8) (n : Nat) (hl : (10 : UInt8) ∉ l) (h : Lib.index x [10, 10] = (n : Int)) : Lib.index (l ++ x) [10, 10] = ((l.length + n : Nat) : Int) := by
  induction l with
  | nil => simpa using h
  | cons c l ih =>
    rw [List.mem_cons, not_or] at hl
    have ih := ih hl.2
    have hp : ([10, 10] : List UInt8).isPrefixOf (c :: (l ++ x)) = false := by
      have : (10 == c) = false := by simpa using hl.1
      simp [List.isPrefixOf, this]
    rw [List.cons_append, Lib.index, hp, ih]
    have : (((l.length + n : Nat) : Int) == -1) = false := by simp; omega
    rw [this]
    simp only [Bool.false_eq_true, if_false, List.length_cons]
    omega
theorem index_nl (b : UInt8) (x : List UInt8) (n : Nat) (hb : b ≠ 10) (h : Lib.index (b :: x) [10, 10] = (n : Int)) : Lib.index (10 :: b :: x) [10, 10] = ((n + 1 : Nat) : Int) := by
  have hp : ([10, 10] : List UInt8).isPrefixOf (10 :: b :: x) = false := by
    have : (10 == b) = false := by simpa using fun e => hb (Eq.symm e)
    simp [List.isPrefixOf, this]
  rw [Lib.index, hp, h]
  have : ((n : Int) == -1) = false := by simp
  rw [this]
  simp
theorem index_head : ∀ (L : List (List UInt8)) (note : List UInt8), L ≠ [] → (∀ l ∈ L, (10 : UInt8) ∉ l ∧ l ≠ []) → Lib.index (joinN L ++ 10 :: 10 :: note) [10, 10] = ((joinN L).length : Int)
  | [], _, h, _ => absurd rfl h
  | [l], note, _, h => by
    have h0 : Lib.index (10 :: 10 :: note) [10, 10] = ((0 : Nat) : Int) := by simp [Lib.index, List.isPrefixOf]
    have := index_line l (10 :: 10 :: note) 0 (h l List.mem_cons_self).1 h0
    simpa [joinS] using this
  | l :: m :: r, note, _, h => by
    have ih := index_head (m :: r) note (by simp) (fun x hx => h x (List.mem_cons_of_mem _ hx))
    rw [joinN_cons l (by simp), List.append_assoc, List.cons_append]
    obtain ⟨h1, h2⟩ := h m (List.mem_cons_of_mem _ List.mem_cons_self)
    obtain ⟨b, t, rfl⟩ : ∃ b t, m = b :: t := List.exists_cons_of_ne_nil h2
    rw [List.mem_cons, not_or] at h1
    obtain ⟨y, hy⟩ : ∃ y, joinN ((b :: t) :: r) = b :: y := by
      cases r with
      | nil => exact ⟨t, rfl⟩
      | cons z r => exact ⟨_, by rw [joinN_cons _ (by simp), List.cons_append]⟩
    rw [hy] at ih ⊢
    have := index_line l _ _ (h l List.mem_cons_self).1 (index_nl b _ _ (fun e => h1.1 e.symm) ih)
    refine Eq.trans this ?_
    simp only [List.length_append, List.length_cons]
theorem cut_head (L : List (List UInt8)) (note : List UInt8) (h0 : L ≠ []) (h : ∀ l ∈ L, (10 : UInt8) ∉ l ∧ l ≠ []) : Lib.cut (joinN L ++ 10 :: 10 :: note) [10, 10] = (joinN L, note, true) := by
  unfold Lib.cut
  rw [index_head L note h0 h, if_pos (by omega)]
  simp
theorem hv_nl : hv 10 = -1 := by decide +kernel
theorem nl_hex {l : List UInt8} (h : isHexL l = true) : (10 : UInt8) ∉ l := by
  intro hm
  unfold isHexL at h
  have := List.all_eq_true.1 h 10 hm
  rw [hv_nl] at this
  simp at this
theorem nl_hexL (l : List UInt8) : (10 : UInt8) ∉ hexL l := nl_hex (unhex_hexL l).2
theorem nl_wput (b : Nat) : (10 : UInt8) ∉ wput b := by
  cases h : fmay b
  · rw [wput_not h]; simp
  · refine nl_hex ?_
    cases hx : isHexL (wput b)
    · have := (isHexL_hnum (wput b)).2 hx
      rw [wput_num h] at this
      cases this
    · rfl
/-- A commit's lines. -/
def linesC (c : Com) : List (List UInt8) := (treeW ++ hexL c.tree.1) :: (c.ps.map (fun p => parW ++ hexL p.1) ++ [whenW ++ wput c.wh])
theorem joinN_lines (a z : List UInt8) : ∀ ps : List Idt, joinN (a :: (ps.map (fun p => parW ++ hexL p.1) ++ [z])) = a ++ [10] ++ parsB ps ++ z
  | [] => by simp [joinS, parsB]
  | p :: ps => by
    have ih := joinN_lines (parW ++ hexL p.1) z ps
    rw [joinN_cons _ (by simp), List.map_cons, List.cons_append, ih]
    simp [parsB, parB]
theorem commitB_lines (c : Com) : commitB c = joinN (linesC c) ++ 10 :: 10 :: c.note := by
  unfold linesC
  rw [joinN_lines]
  simp [commitB]
theorem linesC_calm (c : Com) : ∀ l ∈ linesC c, (10 : UInt8) ∉ l ∧ l ≠ [] := by
  intro l hl
  unfold linesC at hl
  simp only [List.mem_cons, List.mem_append, List.mem_map, List.not_mem_nil, or_false] at hl
  rcases hl with rfl | ⟨p, _, rfl⟩ | rfl
  · exact ⟨by simp only [List.mem_append, not_or]; exact ⟨by decide, nl_hexL _⟩, by simp [treeW]⟩
  · exact ⟨by simp only [List.mem_append, not_or]; exact ⟨by decide, nl_hexL _⟩, by simp [parW]⟩
  · exact ⟨by simp only [List.mem_append, not_or]; exact ⟨by decide, nl_wput _⟩, by simp [whenW]⟩
/-- A line of a word and a name. -/
def namedV (line w : List UInt8) : Idt × Bool := if w.isPrefixOf line = true then (⟨(idR (line.drop w.length)).1, idR_len _⟩, (idR (line.drop w.length)).2) else (default, false)
theorem isPrefix_self (w r : List UInt8) : w.isPrefixOf (w ++ r) = true := by rw [List.isPrefixOf_iff_prefix]; exact List.prefix_append _ _
theorem namedV_put (w : List UInt8) (p : Idt) : namedV (w ++ hexL p.1) w = (p, true) := by
  unfold namedV
  rw [if_pos (isPrefix_self _ _)]
  have hd : (w ++ hexL p.1).drop w.length = hexL p.1 := List.drop_left
  have := idR_hexL p.1 (by rw [hexL_length, p.2])
  rw [← hd] at this
  refine Prod.ext (Subtype.ext ?_) ?_
  · show (idR ((w ++ hexL p.1).drop w.length)).1 = p.1
    rw [this]
  · show (idR ((w ++ hexL p.1).drop w.length)).2 = true
    rw [this]
def stepC (c : Com) (line : List UInt8) : Com :=
  if (namedV line parW).2 = true then { c with ps := c.ps ++ [(namedV line parW).1] }
  else if whenW.isPrefixOf line = true then { c with wh := (wgetV (line.drop 5)).1 } else c
/-- What is read of a text, whatever it is. -/
def parseC (s : List UInt8) : Com :=
  let l := Lib.split (Lib.cut s [10, 10]).1 [10]
  (l.drop 1).foldl stepC ⟨(namedV (l.headD []) treeW).1, [], 0, (Lib.cut s [10, 10]).2.1⟩
theorem stepC_pars (c : Com) (ps : List Idt) : (ps.map (fun p => parW ++ hexL p.1)).foldl stepC c = { c with ps := c.ps ++ ps } := by
  induction ps generalizing c with
  | nil => simp
  | cons p ps ih =>
    rw [List.map_cons, List.foldl_cons, ih]
    have : stepC c (parW ++ hexL p.1) = { c with ps := c.ps ++ [p] } := by
      unfold stepC
      rw [namedV_put, if_pos rfl]
    rw [this]
    simp
theorem parseC_put (c : Com) (hb : c.wh < 18446744073709551616) (h : mayC c = true) : parseC (commitB c) = c := by
  have hf : fmay c.wh = true := by
    unfold mayC at h
    simp only [Bool.and_eq_true] at h
    exact h.2
  unfold parseC
  rw [commitB_lines, cut_head _ _ (by simp [linesC]) (linesC_calm c), split_join 10 _ (by simp [linesC]) (fun l hl => (linesC_calm c l hl).1)]
  unfold linesC
  simp only [List.drop_succ_cons, List.drop_zero, List.headD_cons]
  rw [namedV_put, List.foldl_append, stepC_pars, List.foldl_cons, List.foldl_nil]
  unfold stepC
  have h1 : (namedV (whenW ++ wput c.wh) parW).2 = false := by
    unfold namedV
    rw [if_neg (by simp [parW, whenW, List.isPrefixOf])]
  rw [h1, if_neg (by simp), if_pos (isPrefix_self _ _), show (5 : Nat) = whenW.length from rfl, List.drop_left, wgetV_put hb hf]
  simp
/-- What the program reads. -/
def getC (s : List UInt8) : Option Com := if mayC (parseC s) = true ∧ commitB (parseC s) = s then some (parseC s) else none
theorem wgetV_lt (l : List UInt8) : (wgetV l).1 < 18446744073709551616 := by
  rw [wgetV_eq]
  unfold rgetV
  cases hn : hnum l with
  | none => simp
  | some n =>
    simp only
    by_cases h16 : l.length = 16
    · have hlt := hnum_lt l 16 (by omega) n (by rw [List.take_of_length_le (by omega)]; exact hn)
      rw [show (16 : Nat) ^ 16 = 18446744073709551616 by decide] at hlt
      cases fmay n <;> simp [h16, hlt]
    · simp [h16]
theorem stepC_lt (l : List (List UInt8)) : ∀ c : Com, c.wh < 18446744073709551616 → (l.foldl stepC c).wh < 18446744073709551616 := by
  induction l with
  | nil => intro c h; exact h
  | cons x l ih =>
    intro c h
    rw [List.foldl_cons]
    refine ih _ ?_
    unfold stepC
    split
    · exact h
    · split
      · exact wgetV_lt _
      · exact h
theorem parseC_lt (s : List UInt8) : (parseC s).wh < 18446744073709551616 := by
  unfold parseC
  exact stepC_lt _ _ (by simp)
theorem getC_iff {s : List UInt8} {c : Com} : getC s = some c ↔ c.wh < 18446744073709551616 ∧ mayC c = true ∧ commitB c = s := by
  unfold getC
  constructor
  · intro h
    split at h
    · rename_i hc
      injection h with h
      subst h
      exact ⟨parseC_lt s, hc⟩
    · cases h
  · rintro ⟨h0, h1, rfl⟩
    rw [parseC_put c h0 h1, if_pos ⟨h1, rfl⟩]
/-- How long a line is. -/
def nlLen (r : List UInt8) : Nat := (r.takeWhile (· ≠ 10)).length
/-- What stands behind a word in the first line; the rest. -/
def wordV (s w : List UInt8) : Option (List UInt8 × List UInt8) :=
  if w.isPrefixOf s = true ∧ nlLen (s.drop w.length) < (s.drop w.length).length then some ((s.drop w.length).take (nlLen (s.drop w.length)), (s.drop w.length).drop (nlLen (s.drop w.length) + 1)) else none
theorem nlLen_line (l r : List UInt8) (h : (10 : UInt8) ∉ l) : nlLen (l ++ 10 :: r) = l.length := by
  unfold nlLen
  rw [List.takeWhile_append_of_pos (fun c hc => by simpa using fun e => h (by rw [← e]; exact hc))]
  simp
theorem wordV_put (w l r : List UInt8) (h : (10 : UInt8) ∉ l) : wordV (w ++ l ++ 10 :: r) w = some (l, r) := by
  unfold wordV
  rw [List.append_assoc, List.drop_left, nlLen_line l r h, if_pos ⟨isPrefix_self _ _, by simp⟩]
  congr 1
  rw [List.take_left, List.drop_append, List.drop_of_length_le (by omega), Nat.add_sub_cancel_left]
  rfl
theorem wordV_some {s w l r : List UInt8} (h : wordV s w = some (l, r)) : s = w ++ l ++ 10 :: r := by
  unfold wordV at h
  split at h
  · rename_i hc
    obtain ⟨h1, h2⟩ := hc
    rw [List.isPrefixOf_iff_prefix] at h1
    obtain ⟨t, rfl⟩ := h1
    rw [List.drop_left] at h h2
    injection h with h
    injection h with ha hb
    subst ha; subst hb
    rw [List.append_assoc]
    congr 1
    have e : t[nlLen t] = 10 := by
      have hne : t.dropWhile (· ≠ 10) ≠ [] := by
        intro e
        have h3 := congrArg List.length (List.takeWhile_append_dropWhile (p := fun x : UInt8 => decide (x ≠ 10)) (l := t))
        rw [List.length_append] at h3
        have h4 : (t.dropWhile (fun x => decide (x ≠ 10))).length = 0 := by rw [e]; rfl
        unfold nlLen at h2
        omega
      have h5 := List.head_dropWhile_not (fun x : UInt8 => decide (x ≠ 10)) hne
      have h6 : (t.dropWhile (fun x => decide (x ≠ 10))).head hne = t[nlLen t] := by
        have h7 : t.dropWhile (fun x => decide (x ≠ 10)) = t.drop (nlLen t) := by
          have h8 := List.takeWhile_append_dropWhile (p := fun x : UInt8 => decide (x ≠ 10)) (l := t)
          have h9 : t.drop (nlLen t) = (t.takeWhile (fun x => decide (x ≠ 10)) ++ t.dropWhile (fun x => decide (x ≠ 10))).drop (t.takeWhile (fun x => decide (x ≠ 10))).length := by rw [h8]; rfl
          rw [h9, List.drop_left]
        simp only [h7, List.head_drop]
      rw [h6] at h5
      simpa using h5
    conv => lhs; rw [← List.take_append_drop (nlLen t) t, List.drop_eq_getElem_cons h2, e]
  · cases h
theorem wordV_len {s w l r : List UInt8} (h : wordV s w = some (l, r)) : r.length < s.length := by
  rw [wordV_some h]
  simp
  omega
/-- The parents' lines: the names; what is behind. -/
def parsF : Nat → List UInt8 → List Idt → Option (List Idt × List UInt8)
  | 0, s, a => some (a, s)
  | n + 1, s, a => match wordV s parW with
    | none => some (a, s)
    | some (t, r) => if (idR t).2 = true then parsF n r (a ++ [⟨(idR t).1, idR_len t⟩]) else none
/-- What the document reads. -/
def rgetC (s : List UInt8) : Option Com := match wordV s treeW with
  | none => none
  | some (t, r) => if (idR t).2 = true then match parsF r.length r [] with
      | none => none
      | some (ps, r2) => match wordV r2 whenW with
        | none => none
        | some (t2, r3) => if (rgetV t2).2 = true ∧ r3.head? = some 10 ∧ mayC ⟨⟨(idR t).1, idR_len t⟩, ps, (rgetV t2).1, r3.drop 1⟩ = true then some ⟨⟨(idR t).1, idR_len t⟩, ps, (rgetV t2).1, r3.drop 1⟩ else none
    else none
theorem parsF_put (z : List UInt8) (hz : wordV z parW = none) : ∀ (ps : List Idt) (n : Nat) (a : List Idt), (parsB ps ++ z).length ≤ n → parsF n (parsB ps ++ z) a = some (a ++ ps, z) := by
  intro ps
  induction ps with
  | nil =>
    intro n a _
    cases n with
    | zero => simp [parsF, parsB]
    | succ n => simp [parsF, parsB, hz]
  | cons p ps ih =>
    intro n a hn
    have e : parsB (p :: ps) ++ z = parW ++ hexL p.1 ++ 10 :: (parsB ps ++ z) := by simp [parsB, parB]
    rw [e] at hn ⊢
    cases n with
    | zero => simp at hn
    | succ n =>
      have hi := idR_hexL p.1 (by rw [hexL_length, p.2])
      rw [parsF, wordV_put _ _ _ (nl_hexL _)]
      simp only
      rw [if_pos (by rw [hi])]
      have e2 : (⟨(idR (hexL p.1)).1, idR_len _⟩ : Idt) = p := Subtype.ext (by simp only [hi])
      rw [e2, ih n _ (by simp at hn ⊢; omega)]
      simp
theorem idR_back {t : List UInt8} (h : (idR t).2 = true) : t = hexL (idR t).1 := (idR_inj h).1 rfl
theorem parsF_some : ∀ (n : Nat) (s : List UInt8) (a ps : List Idt) (r : List UInt8), parsF n s a = some (ps, r) → ∃ qs, ps = a ++ qs ∧ s = parsB qs ++ r := by
  intro n
  induction n with
  | zero =>
    intro s a ps r h
    rw [parsF] at h
    injection h with h
    injection h with h1 h2
    exact ⟨[], by simp [h1], by simp [parsB, h2]⟩
  | succ n ih =>
    intro s a ps r h
    rw [parsF] at h
    cases hw : wordV s parW with
    | none =>
      rw [hw] at h
      injection h with h
      injection h with h1 h2
      exact ⟨[], by simp [h1], by simp [parsB, h2]⟩
    | some x =>
      obtain ⟨t, r2⟩ := x
      rw [hw] at h
      simp only at h
      split at h
      · rename_i hi
        obtain ⟨qs, h1, h2⟩ := ih _ _ _ _ h
        refine ⟨⟨(idR t).1, idR_len t⟩ :: qs, by rw [h1]; simp, ?_⟩
        rw [wordV_some hw, h2]
        have := idR_back hi
        conv => lhs; rw [this]
        simp [parsB, parB]
      · cases h
theorem rgetC_put (c : Com) (hb : c.wh < 18446744073709551616) (h : mayC c = true) : rgetC (commitB c) = some c := by
  have hf : fmay c.wh = true := by
    unfold mayC at h
    simp only [Bool.and_eq_true] at h
    exact h.2
  have e : commitB c = treeW ++ hexL c.tree.1 ++ 10 :: (parsB c.ps ++ (whenW ++ wput c.wh ++ 10 :: (10 :: c.note))) := by simp [commitB]
  have hz : wordV (whenW ++ wput c.wh ++ 10 :: (10 :: c.note)) parW = none := by
    unfold wordV
    rw [if_neg (by simp [parW, whenW, List.isPrefixOf])]
  have hi := idR_hexL c.tree.1 (by rw [hexL_length, c.tree.2])
  have e2 : (⟨(idR (hexL c.tree.1)).1, idR_len _⟩ : Idt) = c.tree := Subtype.ext (by simp only [hi])
  have hg : rgetV (wput c.wh) = (c.wh, true) := by rw [← wgetV_eq, wgetV_put hb hf]
  unfold rgetC
  rw [e, wordV_put _ _ _ (nl_hexL _)]
  simp only
  rw [if_pos (by rw [hi]), parsF_put _ hz c.ps _ [] (Nat.le_refl _)]
  simp only
  rw [wordV_put _ _ _ (nl_wput _)]
  simp only [e2, hg, List.head?_cons, List.drop_succ_cons, List.drop_zero, List.nil_append]
  have e3 : (⟨c.tree, c.ps, c.wh, c.note⟩ : Com) = c := rfl
  rw [e3, if_pos ⟨trivial, trivial, h⟩]
theorem rgetV_put {t : List UInt8} (h : (rgetV t).2 = true) : wput (rgetV t).1 = t ∧ (rgetV t).1 < 18446744073709551616 := by
  rw [← wgetV_eq] at h ⊢
  refine ⟨?_, wgetV_lt t⟩
  unfold wgetV at h ⊢
  cases hp : puB t with
  | ok n =>
    rw [hp] at h
    simp only at h ⊢
    cases hc : (fmay n && (wput n == t))
    · rw [hc] at h; cases h
    · simp only [cond_true]
      rw [Bool.and_eq_true] at hc
      simpa using hc.2
  | range => rw [hp] at h; cases h
  | _ => rw [hp] at h; cases h
theorem rgetC_some {s : List UInt8} {c : Com} (h : rgetC s = some c) : c.wh < 18446744073709551616 ∧ mayC c = true ∧ commitB c = s := by
  unfold rgetC at h
  cases h1 : wordV s treeW with
  | none => rw [h1] at h; cases h
  | some x =>
    obtain ⟨t, r⟩ := x
    rw [h1] at h
    simp only at h
    split at h
    · rename_i hi
      cases h2 : parsF r.length r [] with
      | none => rw [h2] at h; cases h
      | some y =>
        obtain ⟨ps, r2⟩ := y
        rw [h2] at h
        simp only at h
        cases h3 : wordV r2 whenW with
        | none => rw [h3] at h; cases h
        | some z =>
          obtain ⟨t2, r3⟩ := z
          rw [h3] at h
          simp only at h
          split at h
          · rename_i hc
            obtain ⟨hc1, hc2, hc3⟩ := hc
            injection h with h
            subst h
            obtain ⟨e1, e2⟩ := rgetV_put hc1
            refine ⟨e2, hc3, ?_⟩
            obtain ⟨qs, e3, e4⟩ := parsF_some _ _ _ _ _ h2
            rw [List.nil_append] at e3
            subst e3
            obtain ⟨r4, rfl⟩ : ∃ r4, r3 = 10 :: r4 := by
              cases r3 with
              | nil => cases hc2
              | cons c r4 => exact ⟨r4, by rw [show c = 10 from by simpa using hc2]⟩
            rw [wordV_some h1, e4, wordV_some h3]
            simp only [commitB, e1, List.drop_succ_cons, List.drop_zero]
            conv => rhs; rw [idR_back hi]
            simp
          · cases h
    · cases h
/-- The program and the document read the same. -/
theorem rgetC_eq (s : List UInt8) : rgetC s = getC s := by
  cases h : getC s with
  | some c =>
    obtain ⟨h0, h1, rfl⟩ := getC_iff.1 h
    exact rgetC_put c h0 h1
  | none =>
    cases h2 : rgetC s with
    | none => rfl
    | some c =>
      rw [getC_iff.2 (rgetC_some h2)] at h
      cases h
theorem getC_put (c : Com) (hb : c.wh < 18446744073709551616) (h : mayC c = true) : getC (commitB c) = some c := getC_iff.2 ⟨hb, h, rfl⟩
end Go.Proofs.YtpbnigpdpkfpaaaGreatDoor
namespace Go.Proofs.YtpbnigpdpkfpaaaGreatDoor
theorem insI_out (l : List Idt) (x : Idt) (h : x ∉ l) : (insI l x).length = l.length + 1 := by
  induction l with
  | nil => rfl
  | cons y r ih =>
    rw [List.mem_cons, not_or] at h
    unfold insI
    split
    · rw [List.length_cons, ih h.2, List.length_cons]
    · rw [if_neg (fun e => h.1 e.symm)]
      rfl
theorem insI_in (l : List Idt) (x : Idt) (hr : Rises l) (h : x ∈ l) : insI l x = l :=
  rises_ext _ _ (insI_rises l x hr) hr fun z => by
    rw [insI_mem]
    constructor
    · rintro (h1 | rfl)
      · exact h1
      · exact h
    · exact .inl
theorem putI_step (ps : List Idt) (k : Nat) (hk : k < ps.length) : (putI (ps.take (k + 1))).length = if ps[k]! ∈ ps.take k then (putI (ps.take k)).length else (putI (ps.take k)).length + 1 := by
  have e : ps.take (k + 1) = ps.take k ++ [ps[k]!] := by
    rw [List.take_add_one, getElem!_pos ps k hk]
    simp [hk]
  have hh : Rises (putI (ps.take k)) ∧ ∀ x, x ∈ putI (ps.take k) ↔ x ∈ ([] : List Idt) ∨ x ∈ ps.take k := fold_holds (ps.take k) [] List.Pairwise.nil
  obtain ⟨h1, h2⟩ := hh
  have h3 : ps[k]! ∈ putI (ps.take k) ↔ ps[k]! ∈ ps.take k := (h2 _).trans (by simp)
  rw [e, putI_snoc]
  split
  · rename_i h
    rw [insI_in _ _ h1 (h3.2 h)]
  · rename_i h
    exact insI_out _ _ fun hh => h (h3.1 hh)
theorem alike_none (ps : List Idt) (h : ∀ i, i < ps.length → ps[i]! ∉ ps.take i) : (sortI ps).length = ps.length := by
  have key : ∀ k, k ≤ ps.length → (putI (ps.take k)).length = k := by
    intro k
    induction k with
    | zero => intro _; rfl
    | succ k ih =>
      intro hk
      rw [putI_step ps k (by omega), if_neg (h k (by omega)), ih (by omega)]
  have := key ps.length (Nat.le_refl _)
  rwa [List.take_length, putI_eq] at this
theorem mayC_unlike (c : Com) (h : ∀ i, i < c.ps.length → c.ps[i]! ∉ c.ps.take i) : mayC c = (decide (c.ps.length ≤ 4) && fmay c.wh && decide (c.note.length ≤ 100)) := by
  unfold mayC
  rw [alike_none c.ps h, decide_eq_true rfl, Bool.and_true]
  cases decide (c.ps.length ≤ 4) <;> cases fmay c.wh <;> cases decide (c.note.length ≤ 100) <;> rfl
end Go.Proofs.YtpbnigpdpkfpaaaGreatDoor
namespace Go.Proofs.YtpbnigpdpkfpaaaGreatDoor
structure Obt where
  kd : Int
  blob : List UInt8
  ents : List Ent
  com : Com
def noOb : Obt := ⟨0, [], [], noCom⟩
/-- Are two commits the same? -/
def eqC (a b : Com) : Bool := decide (a.tree = b.tree) && decide (a.ps = b.ps) && decide (fbits a.wh = fbits b.wh) && decide (a.note = b.note)
def eqO (a b : Obt) : Bool := decide (a.kd = b.kd) && decide (a.blob = b.blob) && decide (a.ents = b.ents) && eqC a.com b.com
def mayO (o : Obt) : Bool :=
  if o.kd = 1 then decide (o.ents = []) && eqC o.com noCom && decide (o.blob.length ≤ 1000)
  else if o.kd = 2 then decide (o.blob = []) && eqC o.com noCom && mayT o.ents
  else if o.kd = 3 then decide (o.blob = []) && decide (o.ents = []) && mayC o.com
  else false
/-- The bytes of one that may be. -/
def putO (o : Obt) : List UInt8 := if o.kd = 2 then treeB o.ents else if o.kd = 3 then commitB o.com else o.blob
def linksO (o : Obt) : List Idt := if o.kd = 2 then o.ents.map (·.id) else if o.kd = 3 then o.com.tree :: o.com.ps else []
/-- What is read of bytes: the object, the error's number. -/
def getO (k : Int) (s : List UInt8) : Obt × Int :=
  if k = 1 then if s.length ≤ 1000 then (⟨1, s, [], noCom⟩, 0) else (noOb, 5)
  else if k = 2 then match getT s with | some es => (⟨2, [], es, noCom⟩, 0) | none => (noOb, 1)
  else if k = 3 then match getC s with | some c => (⟨3, [], [], c⟩, 0) | none => (noOb, 1)
  else (noOb, 1)
end Go.Proofs.YtpbnigpdpkfpaaaGreatDoor
namespace Go.Proofs.YtpbnigpdpkfpaaaGreatDoor
theorem joinS_snoc (d : UInt8) (L : List (List UInt8)) (h : L ≠ []) (m : List UInt8) : joinS d (L ++ [m]) = joinS d L ++ d :: m := by
  induction L with
  | nil => exact absurd rfl h
  | cons l r ih =>
    cases r with
    | nil => rfl
    | cons x r =>
      rw [List.cons_append, joinS_cons d l (by simp), ih (by simp), joinS_cons d l (by simp), List.append_assoc, List.cons_append]
theorem joinS_last (d : UInt8) (L : List (List UInt8)) (m x : List UInt8) : joinS d (L ++ [m ++ x]) = joinS d (L ++ [m]) ++ x := by
  by_cases h : L = []
  · subst h; rfl
  · rw [joinS_snoc d L h, joinS_snoc d L h, List.append_assoc, List.cons_append]
/-- One more sign. -/
def stepP (L : List (List UInt8)) (c : UInt8) : List (List UInt8) := if c = 47 then L ++ [[]] else L.dropLast ++ [L.getLastD [] ++ [c]]
def partsP (s : List UInt8) : List (List UInt8) := s.foldl stepP [[]]
theorem partsP_holds (s : List UInt8) : ∀ L : List (List UInt8), L ≠ [] → (∀ l ∈ L, (47 : UInt8) ∉ l) → s.foldl stepP L ≠ [] ∧ (∀ l ∈ s.foldl stepP L, (47 : UInt8) ∉ l) ∧ joinS 47 (s.foldl stepP L) = joinS 47 L ++ s := by
  induction s with
  | nil => intro L h1 h2; exact ⟨h1, h2, by simp⟩
  | cons c s ih =>
    intro L h1 h2
    obtain ⟨M, m, rfl⟩ : ∃ M m, L = M ++ [m] := ⟨L.dropLast, L.getLast h1, (List.dropLast_concat_getLast h1).symm⟩
    rw [List.foldl_cons]
    by_cases hc : c = 47
    · subst hc
      have e : stepP (M ++ [m]) 47 = M ++ [m] ++ [[]] := by unfold stepP; rw [if_pos rfl]
      rw [e]
      obtain ⟨i1, i2, i3⟩ := ih (M ++ [m] ++ [[]]) (by simp) (fun l hl => by
        rcases List.mem_append.1 hl with h | h
        · exact h2 l h
        · rw [List.mem_singleton.1 h]; simp)
      exact ⟨i1, i2, by rw [i3, joinS_snoc 47 _ (by simp)]; simp⟩
    · have e : stepP (M ++ [m]) c = M ++ [m ++ [c]] := by unfold stepP; rw [if_neg hc]; simp
      rw [e]
      obtain ⟨i1, i2, i3⟩ := ih (M ++ [m ++ [c]]) (by simp) (fun l hl => by
        rcases List.mem_append.1 hl with h | h
        · exact h2 l (List.mem_append_left _ h)
        · rw [List.mem_singleton.1 h, List.mem_append, not_or]
          exact ⟨h2 m (by simp), by simpa using fun e => hc (Eq.symm e)⟩)
      exact ⟨i1, i2, by rw [i3, joinS_last]; simp⟩
theorem partsP_split (s : List UInt8) : Lib.split s [47] = partsP s := by
  obtain ⟨h1, h2, h3⟩ := partsP_holds s [[]] (by simp) (by simp)
  have h3 : joinS 47 (partsP s) = s := by rw [joinS] at h3; exact h3
  conv => lhs; rw [← h3]
  exact split_join 47 _ h1 h2
theorem partsP_len (s : List UInt8) : (partsP s).length ≤ s.length + 1 := by
  have : ∀ (s : List UInt8) (L : List (List UInt8)), L ≠ [] → (s.foldl stepP L).length ≤ L.length + s.length := by
    intro s
    induction s with
    | nil => intro L _; simp
    | cons c s ih =>
      intro L h
      rw [List.foldl_cons]
      have hl : 0 < L.length := List.length_pos_iff.2 h
      have hs : (stepP L c).length ≤ L.length + 1 := by
        unfold stepP
        split
        · simp
        · simp only [List.length_append, List.length_dropLast, List.length_cons, List.length_nil]; omega
      have hn : stepP L c ≠ [] := by unfold stepP; split <;> simp
      have := ih (stepP L c) hn
      simp only [List.length_cons]
      omega
  have := this s [[]] (by simp)
  simpa [partsP, Nat.add_comm] using this
/-- The parts of a path. -/
def pathV (s : List UInt8) : List (List UInt8) × Bool := if s = [] then ([], true) else if (partsP s).all nameB = true then (partsP s, true) else ([], false)
end Go.Proofs.YtpbnigpdpkfpaaaGreatDoor
namespace Go.Proofs.YtpbnigpdpkfpaaaGreatDoor
open Go.RowKit
theorem nl_before {r : List UInt8} {p : Nat} (h : p < nlLen r) : ∃ hp : p < r.length, r[p] ≠ 10 := by
  have hl : nlLen r ≤ r.length := (List.takeWhile_prefix (fun x : UInt8 => decide (x ≠ 10)) (l := r)).length_le
  have h1 : p < r.length := by omega
  refine ⟨h1, ?_⟩
  have h2 : (r.takeWhile (· ≠ 10))[p]'h = r[p] := by
    have := List.takeWhile_prefix (p := fun x : UInt8 => decide (x ≠ 10)) (l := r)
    exact this.getElem h
  have h3 := List.all_takeWhile (p := fun x : UInt8 => decide (x ≠ 10)) (l := r)
  have h4 := List.all_eq_true.1 h3 _ (List.getElem_mem h)
  rw [← h2]
  simpa using h4
theorem nl_at : ∀ {r : List UInt8} (h : nlLen r < r.length), r[nlLen r] = 10 := by
  intro r
  induction r with
  | nil => intro h; simp at h
  | cons c r ih =>
    intro h
    by_cases hc : c = 10
    · subst hc
      have e : nlLen (10 :: r) = 0 := by simp [nlLen]
      simp [e]
    · have e : nlLen (c :: r) = nlLen r + 1 := by simp [nlLen, hc]
      have h2 : nlLen r < r.length := by rw [e, List.length_cons] at h; omega
      have := ih h2
      simpa [e] using this
theorem ba_at2 (x : ByteArray) (k : Nat) (h : k < x.size) : x[k]'h = x.data.toList.getD k 0 := by
  have h2 : k < x.data.toList.length := by rw [← ba_size]; exact h
  rw [ByteArray.getElem_eq_getElem_data, ← Array.getElem_toList, List.getD_eq_getElem?_getD, List.getElem?_eq_getElem h2, Option.getD_some]
/-- What ref5.word tells. -/
def wordT (l w : List UInt8) : Value := match wordV l w with
  | some (t, r) => .tuple #[.string ⟨t.toArray⟩, .string ⟨r.toArray⟩, .bool true]
  | none => .tuple #[.string ⟨#[]⟩, .string ⟨#[]⟩, .bool false]
theorem meas_step2 (k j : Nat) (h : j < k) : k - (intOf (.int .i64 ((j : Int) + 1))).toNat < k - (intOf (.int .i64 (j : Int))).toNat := by
  simp only [intOf]
  omega
set_option maxRecDepth 20000 in
set_option maxHeartbeats 3200000 in
theorem rword_any (W : World) (s p : ByteArray) (l w : List UInt8) (hl : l = s.data.toList) (hw : w = p.data.toList) (hs : s.size < 4294967281) :
    Calls Tryz.prog 136 #[.string s, .string p] W fun e W' => e = .returned (wordT l w) ∧ ∃ q, W' = W.drewN q := by
  have hls : l.length = s.size := by rw [hl, ← ba_size]
  have hwp : w.length = p.size := by rw [hw, ← ba_size]
  by_cases hlen : s.size < p.size
  · have hv : wordT l w = .tuple #[.string ⟨#[]⟩, .string ⟨#[]⟩, .bool false] := by
      unfold wordT wordV
      rw [if_neg]
      rintro ⟨h1, _⟩
      have := (List.isPrefixOf_iff_prefix.1 h1).length_le
      omega
    have HV := Lib.hid hv
    have h1 : (s.size : Int) < (p.size : Int) := by omega
    clear hv hl hw hs hls hwp hlen
    go_enter Tryz.func136, Tryz.ntmps136
    go_wp2
    go_ret3
    exact ⟨by rw [HV.out]; rfl, 0, rfl⟩
  · have h1 : (p.size : Int) ≤ (s.size : Int) := by omega
    obtain ⟨x, hx⟩ : ∃ x : ByteArray, s.extract 0 p.size = x := ⟨_, rfl⟩
    have hxl : x.data.toList = l.take p.size := by rw [← hx, ba_extract, hl]; simp
    have hpx : w.isPrefixOf l = (x.toList == p.toList) := by
      rw [ByteArray.toList_eq, ByteArray.toList_eq, hxl, ← hw, Bool.eq_iff_iff, List.isPrefixOf_iff_prefix, beq_iff_eq]
      constructor
      · intro h
        have := List.prefix_iff_eq_take.1 h
        rw [← hwp]
        exact this.symm
      · intro h
        rw [← h]
        exact List.take_prefix _ _
    cases hpp : (x.toList == p.toList)
    · rw [hpp] at hpx
      have hv : wordT l w = .tuple #[.string ⟨#[]⟩, .string ⟨#[]⟩, .bool false] := by
        unfold wordT wordV
        rw [if_neg]
        rintro ⟨h2, _⟩
        rw [hpx] at h2
        cases h2
      have HV := Lib.hid hv
      have hpn : (x.toList != p.toList) = true := by rw [bne, hpp]; rfl
      have hnl : ¬ (s.size : Int) < (p.size : Int) := by omega
      clear hv hl hw hs hls hwp hlen hxl hpx
      go_enter Tryz.func136, Tryz.ntmps136
      go_wp2
      go_ret3
      exact ⟨by rw [HV.out]; rfl, 0, rfl⟩
    · rw [hpp] at hpx
      have hpn : (x.toList != p.toList) = false := by rw [bne, hpp]; rfl
      have hnl : ¬ (s.size : Int) < (p.size : Int) := by omega
      obtain ⟨r, hr⟩ : ∃ r, r = l.drop p.size := ⟨_, rfl⟩
      obtain ⟨n, hn⟩ : ∃ n, n = nlLen r := ⟨_, rfl⟩
      have hnle : nlLen r ≤ r.length := (List.takeWhile_prefix (fun x : UInt8 => decide (x ≠ 10)) (l := r)).length_le
      have hrl : r.length = s.size - p.size := by rw [hr, List.length_drop]; omega
      obtain ⟨k, hk⟩ : ∃ k, k = p.size + n := ⟨_, rfl⟩
      have hv : wordT l w = if n < r.length then .tuple #[.string ⟨(r.take n).toArray⟩, .string ⟨(r.drop (n + 1)).toArray⟩, .bool true] else .tuple #[.string ⟨#[]⟩, .string ⟨#[]⟩, .bool false] := by
        unfold wordT wordV
        rw [hwp, ← hr, hpx, ← hn]
        by_cases h2 : n < r.length
        · rw [if_pos ⟨rfl, h2⟩, if_pos h2]
        · rw [if_neg (fun h => h2 h.2), if_neg h2]
      have hat : ∀ j, p.size ≤ j → j < s.size → ∃ h : j < s.size, s[j]'h = r.getD (j - p.size) 0 := fun j h2 h3 => ⟨h3, by
        rw [ba_at2 s j h3, ← hl, hr, List.getD_eq_getElem?_getD, List.getD_eq_getElem?_getD, List.getElem?_drop]
        congr 2
        omega⟩
      have HV := Lib.hid hv
      have HAT := Lib.hid hat
      have HR := Lib.hid hrl
      have HK := Lib.hid hk
      have HN := Lib.hid hn
      have HNL := Lib.hid hnle
      have HL := Lib.hid hl
      have HRD := Lib.hid hr
      have hsz : s.size < 4294967281 := hs
      have HS := Lib.hid hsz
      have HP := Lib.hid (show p.size ≤ s.size by omega)
      clear hv hl hw hs hls hwp hxl hpx hrl hk hn hnle hr hsz hlen hat
      go_enter Tryz.func136, Tryz.ntmps136
      go_upto_region 4 with fail
      go_loopw [7] (fun i wr => ∃ j : Nat, p.size ≤ j ∧ j ≤ k ∧ i = .int .i64 j ∧ wr = W) (fun i _ => k - (intOf i).toNat)
      case atStart => exact ⟨p.size, Nat.le_refl _, by have := HK.out; omega, rfl, rfl⟩
      case round =>
        obtain ⟨j, hpj, hjk, rfl, hw⟩ := hrel
        have hw1 := hw.symm
        subst hw1
        clear hw
        by_cases hlt : j < k
        · obtain ⟨h2, h3⟩ := nl_before (r := r) (p := j - p.size) (by rw [← HN.out]; have := HK.out; omega)
          obtain ⟨hjz, hje⟩ := HAT.out j hpj (by have := HR.out; omega)
          have hv : (((s[j]'hjz).toNat : Int) == 10) = false := by
            rw [hje, List.getD_eq_getElem?_getD, List.getElem?_eq_getElem h2, Option.getD_some, beq_eq_false_iff_ne]
            intro e
            exact h3 (UInt8.toNat_inj.1 (by have : (10 : UInt8).toNat = 10 := rfl; omega))
          have k1 : (j : Int) < (s.size : Int) := by omega
          have jb : wrap64 ((j : Int) + 1) = (j : Int) + 1 := by have := HS.out; unfold wrap64; omega
          have HLT := Lib.hid hlt
          have HPJ := Lib.hid hpj
          clear hpj hjk hlt h2 h3 hje
          go_wp2
          go_roundw
          case measure => first | exact meas_step2 k j HLT.out | (rw [jb]; exact meas_step2 k j HLT.out)
          case rel => exact ⟨j + 1, by have := HPJ.out; omega, HLT.out, by go_num, by first | trivial | rfl⟩
        · have hjk' : j = k := by omega
          subst hjk'
          by_cases hkz : n < r.length
          · obtain ⟨hjz, hje⟩ := HAT.out j hpj (by have := HR.out; have := HK.out; omega)
            have hv : (((s[j]'hjz).toNat : Int) == 10) = true := by
              have h4 := nl_at (r := r) (by rw [← HN.out]; exact hkz)
              have e : j - p.size = nlLen r := by have := HK.out; rw [← HN.out]; omega
              rw [hje, e, List.getD_eq_getElem?_getD, List.getElem?_eq_getElem (by rw [← HN.out]; exact hkz), Option.getD_some, h4]
              rfl
            have k1 : (j : Int) < (s.size : Int) := by omega
            have k2 : (p.size : Int) ≤ (j : Int) := by omega
            obtain ⟨j1, hj1⟩ : ∃ j1, j1 = j + 1 := ⟨_, rfl⟩
            have jb : wrap64 ((j : Int) + 1) = (j1 : Int) := by have := HS.out; unfold wrap64; omega
            have k3 : (j1 : Int) ≤ (s.size : Int) := by omega
            have k4 : (j : Int) ≤ (s.size : Int) := by omega
            obtain ⟨a, ha⟩ : ∃ a : ByteArray, s.extract p.size j = a := ⟨_, rfl⟩
            obtain ⟨b, hb⟩ : ∃ b : ByteArray, s.extract j1 s.size = b := ⟨_, rfl⟩
            have ha2 : a = ⟨(r.take n).toArray⟩ := ba_ext (by
              rw [← ha, ba_extract, ← HL.out, HRD.out]
              show _ = List.take n (List.drop p.size l)
              rw [HK.out, List.drop_take]
              congr 1
              omega)
            have hb2 : b = ⟨(r.drop (n + 1)).toArray⟩ := ba_ext (by
              rw [← hb, ba_from, ← HL.out, HRD.out]
              show _ = List.drop (n + 1) (List.drop p.size l)
              rw [List.drop_drop]
              congr 1
              have := HK.out
              omega)
            have HV2 : Hid (wordT l w = .tuple #[.string a, .string b, .bool true]) := Lib.hid (by rw [HV.out, if_pos hkz, ha2, hb2])
            clear hpj hjk hlt hje ha2 hb2 hkz HV hj1
            go_wp2
            go_quiet (fail)
            go_wp2
            go_ret3
            exact ⟨by rw [HV2.out]; rfl, nq, rfl⟩
          · have k1 : ¬ (j : Int) < (s.size : Int) := by have := HR.out; have := HK.out; have := HP.out; omega
            have HV2 : Hid (wordT l w = .tuple #[.string ⟨#[]⟩, .string ⟨#[]⟩, .bool false]) := Lib.hid (by rw [HV.out, if_neg hkz])
            clear hpj hjk hlt hkz HV
            go_wp2
            go_ret3
            exact ⟨by rw [HV2.out]; rfl, 0, rfl⟩
end Go.Proofs.YtpbnigpdpkfpaaaGreatDoor
