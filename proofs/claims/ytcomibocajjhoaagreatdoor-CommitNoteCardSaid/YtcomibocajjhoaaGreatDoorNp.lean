/- Commits of a note alone; paths of parts that are joined. -/
import Derived.Test.YtcomibocajjhoaaGreatDoorP15x
import Derived.Test.YtcomibocajjhoaaGreatDoorCe
import Derived.Test.YtcomibocajjhoaaGreatDoorP14x
namespace Go.Proofs.YtcomibocajjhoaaGreatDoor
open Go.RowKit
/-- A commit of the time 5 and of a note. -/
def comN (l : List UInt8) : Com := ⟨default, [], 4617315517961601024, l⟩
theorem comN_may (l : List UInt8) : mayC (comN l) = decide (l.length ≤ 100) := by
  rw [mayC_unlike (comN l) (fun i hi => absurd hi (by simp [comN]))]
  have : fmay 4617315517961601024 = true := by kernel_rfl
  simp only [comN, this, List.length_nil, Nat.zero_le, decide_true, Bool.true_and]
  exact decide_eq_decide.2 Iff.rfl
theorem built_comN (nb : ByteArray) : Tryz.prog.built 33 [(2, .float .f64 4617315517961601024), (3, .string nb)] = some (comL (comN nb.data.toList) none 0 0).toArray := by
  have h0 := encI_len default
  have h1 : (encI default).take 33 = encI default := List.take_of_length_le (by rw [encI_len]; omega)
  have h2 : (encI default).drop 34 = [] := List.drop_of_length_le (by rw [encI_len]; omega)
  have h3 : (encI default).take 34 = encI default := List.take_of_length_le (by rw [encI_len]; omega)
  have h4 : (encI default).drop 35 = [] := List.drop_of_length_le (by rw [encI_len]; omega)
  rw [builtC, fill_one _ _ 2 _ _ 33 [.float .f64 4617315517961601024] rfl (by simp) (by simp [zeroC, comL_len]), fill_one _ _ 3 _ _ 34 [.string nb] rfl (by simp) (by simp [zeroC, comL, noCom, h0]), Instr.fill]
  simp [zeroC, comL, noCom, comN, h0, h1, h2, h3, h4, List.take_append, List.drop_append]
theorem comN_at (w : World) (l : List UInt8) (h : l.length ≤ maxLen) : ComAt w (comN l) none 0 0 := ⟨⟨rfl, fun h => absurd h (Nat.lt_irrefl 0), fun u hu => by cases hu⟩, Nat.le_refl _, Nat.zero_le _, (show (4617315517961601024 : Nat) < 18446744073709551616 from by decide), h⟩
theorem commitB_ne (c : Com) : commitB c ≠ [] := by
  unfold commitB treeW
  simp
theorem getC_nil : getC [] = none := by
  unfold getC
  rw [if_neg]
  exact fun h => commitB_ne _ h.2
theorem commitB_len (c : Com) (h64 : c.wh < 18446744073709551616) (h : mayC c = true) : (commitB c).length ≤ 700 := by
  unfold mayC at h
  simp only [Bool.and_eq_true, decide_eq_true_eq] at h
  have ht := c.tree.2
  have hw := wput_len h64 h.2
  unfold commitB
  simp only [List.length_append, hexL_length, parsB_len, treeW, whenW, List.length_cons, List.length_nil]
  omega
theorem slash_nm {s : List UInt8} (h : nameB s = true) : (47 : UInt8) ∉ s := by
  intro h0
  unfold nameB at h
  simp only [Bool.and_eq_true] at h
  have := List.all_eq_true.1 h.1.1.1.1 47 h0
  revert this
  decide
theorem nameB_nil : nameB [] = false := rfl
theorem joinS_nil {d : UInt8} : ∀ {L : List (List UInt8)}, joinS d L = [] → L = [] ∨ L = [[]]
  | [], _ => .inl rfl
  | [l], h => .inr (by rw [show l = [] from h])
  | l :: m :: r, h => by
    rw [joinS_cons d l (List.cons_ne_nil m r)] at h
    exact absurd h (by simp)
/-- Parts that are names, joined: the path has just them. -/
theorem pathV_join (L : List (List UInt8)) (h0 : joinS 47 L ≠ []) (h : L.all nameB = true) : pathV (joinS 47 L) = (L, true) := by
  have hL : L ≠ [] := fun e => h0 (by rw [e]; rfl)
  have hs : partsP (joinS 47 L) = L := by
    rw [← partsP_split]
    exact split_join 47 L hL fun l hl => slash_nm (List.all_eq_true.1 h l hl)
  unfold pathV
  rw [if_neg h0, hs, if_pos h]
end Go.Proofs.YtcomibocajjhoaaGreatDoor
