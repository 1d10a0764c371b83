/- line.All. -/
import Derived.Test.YtpfoohfgochaiaaGreatDoorLd
namespace Go.Proofs.YtpfoohfgochaiaaGreatDoor
open Go.RowKit
theorem getR_ok {l : List UInt8} (h : (getR l).2.2.2 = 0) : 4 ≤ (getR l).2.2.1 ∧ (getR l).2.2.1 ≤ l.length := by
  unfold getR at h ⊢
  by_cases h1 : (numR l).2 = 0
  · obtain ⟨k4, hm, _⟩ := numR_ok h1
    have hle := lmay_le hm
    rw [if_neg (by omega)] at h ⊢
    split at h
    · rename_i e; rw [if_pos e]; exact ⟨Nat.le_refl _, k4⟩
    · rename_i e
      rw [if_neg e]
      split at h
      · rename_i e2; rw [if_pos e2]; exact ⟨Nat.le_refl _, k4⟩
      · rename_i e2
        rw [if_neg e2]
        split at h
        · cases h
        · rename_i e3; rw [if_neg e3]; simp only; omega
  · rw [if_pos h1] at h
    exact absurd h h1
/-- The lines of l from a place on. -/
def allR (l : List UInt8) (at_ : Nat) (acc : List (List UInt8)) : List (List UInt8) × Nat × Nat :=
  if _h : (getR (l.drop at_)).2.2.2 = 0 then
    if (getR (l.drop at_)).1 = 2 then (acc, at_ + (getR (l.drop at_)).2.2.1, 0)
    else if l.length < at_ then ([], 0, 1)
    else allR l (at_ + (getR (l.drop at_)).2.2.1) (acc ++ [(getR (l.drop at_)).2.1])
  else ([], 0, (getR (l.drop at_)).2.2.2)
termination_by l.length + 1 - at_
decreasing_by
  have := getR_ok _h
  rw [List.length_drop] at this
  omega
/-- Texts as cells. -/
def Ss (l : List (List UInt8)) : List Value := l.map fun t => .string ⟨t.toArray⟩
@[simp] theorem Ss_length (l : List (List UInt8)) : (Ss l).length = l.length := by simp [Ss]
theorem src_box1 (w : World) (x : Value) (T : TypeId) (hx : x.oneCell' = true) (k : Nat) (hk : w.heap.size = k) : Src (w.alloc (.cells #[x] T)) 1 (some ⟨k, 0, none⟩) 1 [x] := by
  subst hk
  refine ⟨rfl, fun _ => ⟨_, rfl, fun j u hu => ?_⟩, by intro u hu; simp at hu; subst hu; exact hx⟩
  have hj : j = 0 := by
    rcases j with _ | j
    · rfl
    · simp at hu
  subst hj
  have := (Blk.new w T [x]).cell 0 u (by simpa using hu)
  simpa [Addr.add] using this
theorem Tryz.infoS : (Tryz.prog.info? 9).map (fun i => (i.zero, i.size, i.bytes)) = some (some (.string ⟨#[]⟩), 1, 16) := by kernel_rfl
/-- What All answers. -/
def AllPost (W : World) (l : List UInt8) (e : Ending) (W' : World) : Prop :=
  ∃ v, e = .returned (.tuple #[v, .int .i64 (allR l 0 []).2.1, .int .i64 (allR l 0 []).2.2]) ∧ RowQ W' W.heap.size 9 1 v (allR l 0 []).1.length (Ss (allR l 0 []).1) ∧ Below W.heap.size W W'
def AllRel (W : World) (l : List UInt8) (v i : Value) (wr : World) : Prop :=
  ∃ (a : Nat) (acc : List (List UInt8)), i = .int .i64 a ∧ a ≤ l.length ∧ acc.length * 4 ≤ a ∧ RowQ wr W.heap.size 9 1 v acc.length (Ss acc) ∧ Below W.heap.size W wr ∧ allR l 0 [] = allR l a acc
set_option maxRecDepth 100000 in
set_option maxHeartbeats 1000000 in
theorem all_any (W : World) (s : ByteArray) (hs : s.size ≤ 1099511627776) (hT : Deb W) : Calls Tryz.prog 48 #[.string s] W (AllPost W s.data.toList) := by
  have HT := Lib.hid hT
  have hz := ba_size s
  obtain ⟨l, hl⟩ : ∃ l, l = s.data.toList := ⟨_, rfl⟩
  rw [← hl] at hz ⊢
  have HZ := Lib.hid hz
  have HL := Lib.hid hl
  clear hT hz hl
  go_enter Tryz.func48, Tryz.ntmps48
  go_wp2
  go_loopw [5, 6] (fun v i wr => AllRel W l v i wr) (fun _ i _ => s.size - (intOf i).toNat)
  case atStart => exact ⟨0, [], rfl, by omega, by simp, RowQ.nil _ _ _ _, Below.refl _ _, rfl⟩
  case round =>
    obtain ⟨a, acc, rfl, ha, hacc, hr, hb, hall⟩ := hrel
    have DW : Hid (Deb wr) := HT.out.belowB hb HT.out.lt
    obtain ⟨A1, c1, rfl, hc1, hm1⟩ := hr.shape
    have R := Lib.hid hr
    have B := Lib.hid hb
    obtain ⟨g, hg⟩ : ∃ g, g = getR (l.drop a) := ⟨_, rfl⟩
    have hok := @getR_ok (l.drop a)
    conv at hall => rhs; rw [allR]
    rw [← hg] at hall
    rw [← hg, List.length_drop] at hok
    obtain ⟨k, x, n, r⟩ := g
    simp only at hok hall
    have a1 : (a : Int) ≤ (s.size : Int) := by have := HZ.out; omega
    have a2 : a ≤ s.size := by have := HZ.out; omega
    have ht : (s.extract a s.size).data.toList = l.drop a := by rw [ba_from, HL.out]
    have hcall := get_any wr (s.extract a s.size) (by rw [ByteArray.size_extract]; omega) DW.out
    rw [ht, ← hg] at hcall
    unfold getV at hcall
    simp only at hcall
    have HC := Lib.hid hcall
    have HA := Lib.hid ha
    have HACC := Lib.hid hacc
    clear hr hb hg ht hcall ha hacc
    by_cases hr0 : r = 0
    · subst hr0
      obtain ⟨n4, nle⟩ := hok rfl
      rw [dif_pos rfl] at hall
      have n5 : (n : Int) ≤ (s.size : Int) - (a : Int) := by have := HZ.out; omega
      have s5 : (s.size : Int) ≤ 1099511627776 := by omega
      clear hok
      by_cases hk2 : k = 2
      · subst hk2
        rw [if_pos rfl] at hall
        have HALL := Lib.hid hall
        clear hall hs n4 nle
        go_wp2_with (go_at_call 55; refine HC.out.mono ?_; rintro e w' ⟨rfl, hb⟩; have B2 := Lib.hid hb; clear hb)
        go_ret3
        rw [show AllPost W l = AllPost W l from rfl]
        unfold AllPost
        rw [HALL.out]
        exact ⟨_, rfl, R.out.below B2.out, B.out.trans (B2.out.mono B.out.size)⟩
      · rw [if_neg hk2, if_neg (by have := HA.out; omega)] at hall
        have HALL := Lib.hid hall
        have e2 : ((k : Int) == 2) = false := by simp; omega
        clear hall hs hk2
        go_wp2_with (first | (go_at_call 55; refine HC.out.mono ?_; rintro e w' ⟨rfl, hb⟩; have B2 := Lib.hid hb; clear hb) | (at_builtin; refine wpl_append rfl (.tmp 30) (.tmp 32) 47 rfl W.heap.size 9 (.string ⟨#[]⟩) 1 16 Tryz.underlying47 Tryz.infoS rfl (by decide) (.slice A1 acc.length c1) acc.length (Ss acc) rfl ((R.out.below B2.out).alloc _) _ 1 1 [.string ⟨x.toArray⟩] rfl (src_box1 _ _ _ rfl _ rfl) (by have := HACC.out; have := HA.out; have := HZ.out; omega) (by have := HACC.out; have := HA.out; have := HZ.out; omega) (by rw [hsz]; have := (B.out.trans (B2.out.mono B.out.size)).size; omega) ?_; intro v3 w3 hr3 hg3 hat3; have R3 := Lib.hid hr3; have G3 := Lib.hid hg3; clear hr3 hg3 hat3))
        go_roundw
        case measure => simp [intOf]; omega
        case rel =>
          refine ⟨a + n, acc ++ [x], by go_num, by have := HZ.out; omega, by rw [List.length_append]; simp; have := HACC.out; omega, ?_, ?_, HALL.out⟩
          · rw [List.length_append]; simpa [Ss] using R3.out
          · have hb2 := (B.out.trans (B2.out.mono B.out.size))
            exact grown_low (hb2.alloc (by have := hb2.size; omega) _) (by rw [hsz]; have := hb2.size; omega) G3.out (fun j e => (R.out.lt j e).1)
    · have e0 : ((r : Int) != 0) = true := by simp; omega
      rw [dif_neg hr0] at hall
      have HALL := Lib.hid hall
      clear hall hok hs hr0
      go_wp2_with (go_at_call 55; refine HC.out.mono ?_; rintro e w' ⟨rfl, hb⟩; have B2 := Lib.hid hb; clear hb)
      go_ret3
      unfold AllPost
      rw [HALL.out]
      exact ⟨_, rfl, RowQ.nil _ _ _ _, B.out.trans (B2.out.mono B.out.size)⟩
end Go.Proofs.YtpfoohfgochaiaaGreatDoor
