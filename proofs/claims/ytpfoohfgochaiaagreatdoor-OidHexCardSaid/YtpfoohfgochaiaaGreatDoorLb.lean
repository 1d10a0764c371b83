/- line: which lengths may be; which digits begin one. -/
import Derived.Test.YtpfoohfgochaiaaGreatDoorLa
import Derived.Test.YtpfoohfgochaiaaGreatDoorSh
namespace Go.Proofs.YtpfoohfgochaiaaGreatDoor
open Go.RowKit
theorem Deb.below {W W1 : World} (h : Deb W) (hb : Below W.heap.size W W1) : Deb W1 := by
  have h1 : W.cell? ⟨8, 15, none⟩ = some (.int .u8 4) := h
  exact (hb.cell (World.block_lt_of_cell? W _ h1)).trans h1
theorem Deb.belowB {B : Nat} {W W1 : World} (h : Deb W) (hb : Below B W W1) (hB : 8 < B) : Deb W1 := by
  have h1 : W.cell? ⟨8, 15, none⟩ = some (.int .u8 4) := h
  exact (hb.cell (p := ⟨8, 15, none⟩) hB).trans h1
theorem Deb.lt {W : World} (h : Deb W) : 8 < W.heap.size := World.block_lt_of_cell? W _ h
/-- May this be a length? -/
def lmay (n : Nat) : Bool := n == 0 || n == 1 || (decide (4 < n) && decide (n ≤ 1004))
set_option maxHeartbeats 400000 in
theorem lmay_any (W : World) (n : Nat) : Calls Tryz.prog 132 #[.int .i64 n] W fun e W' => e = .returned (.bool (lmay n)) ∧ W' = W := by
  obtain ⟨b, hb⟩ : ∃ b, b = lmay n := ⟨_, rfl⟩
  rw [← hb]
  have HB := Lib.hid hb
  clear hb
  by_cases h0 : n = 0
  · subst h0
    go_enter Tryz.func132, Tryz.ntmps132
    go_wp2
    go_ret
    exact ⟨by rw [HB.out]; rfl, rfl⟩
  by_cases h1 : n = 1
  · subst h1
    go_enter Tryz.func132, Tryz.ntmps132
    go_wp2
    go_ret
    exact ⟨by rw [HB.out]; rfl, rfl⟩
  have e0 : ((n : Int) == 0) = false := by simp; omega
  have e1 : ((n : Int) == 1) = false := by simp; omega
  by_cases h2 : 4 < n
  · by_cases h3 : n ≤ 1004
    · have d2 : decide ((4 : Int) < (n : Int)) = true := by simp; omega
      have d3 : decide ((n : Int) ≤ 1004) = true := by simp; omega
      have d4 : b = true := by rw [HB.out]; simp [lmay, h2, h3]
      have D4 := Lib.hid d4
      clear h0 h1 h2 h3 d4
      go_enter Tryz.func132, Tryz.ntmps132
      go_wp2
      go_ret
      exact ⟨by rw [D4.out]; simp, rfl⟩
    · have d2 : decide ((4 : Int) < (n : Int)) = true := by simp; omega
      have d3 : decide ((n : Int) ≤ 1004) = false := by simp; omega
      have d4 : b = false := by rw [HB.out]; simp [lmay, h0, h1, h2]; omega
      have D4 := Lib.hid d4
      clear h0 h1 h2 h3 d4
      go_enter Tryz.func132, Tryz.ntmps132
      go_wp2
      go_ret
      exact ⟨by rw [D4.out]; simp, rfl⟩
  · have d2 : decide ((4 : Int) < (n : Int)) = false := by simp; omega
    have d4 : b = false := by rw [HB.out]; simp [lmay, h0, h1]; omega
    have D4 := Lib.hid d4
    clear h0 h1 h2 d4
    go_enter Tryz.func132, Tryz.ntmps132
    go_wp2
    go_ret
    exact ⟨by rw [D4.out]; rfl, rfl⟩
def lbegins (l : List UInt8) : Bool := (List.range 1005).any fun n => lmay n && Lib.hasPrefix (hx4 n) l
def noneB (l : List UInt8) (k : Nat) : Prop := ∀ n, n < k → (lmay n && Lib.hasPrefix (hx4 n) l) = false
theorem noneB_all {l : List UInt8} (h : noneB l 1005) : lbegins l = false := by
  unfold lbegins
  rw [List.any_eq_false]
  intro n hn
  rw [h n (List.mem_range.1 hn)]
  simp
theorem someB {l : List UInt8} {n : Nat} (h : n < 1005) (h1 : (lmay n && Lib.hasPrefix (hx4 n) l) = true) : lbegins l = true := by
  unfold lbegins
  rw [List.any_eq_true]
  exact ⟨n, List.mem_range.2 h, h1⟩
theorem noneB_succ {l : List UInt8} {k : Nat} (h : noneB l k) (h1 : (lmay k && Lib.hasPrefix (hx4 k) l) = false) : noneB l (k + 1) := by
  intro n hn
  rcases Nat.lt_or_ge n k with hl | hl
  · exact h n hl
  · obtain rfl : n = k := by omega
    exact h1
set_option maxRecDepth 20000 in
set_option maxHeartbeats 800000 in
theorem begins_any (W : World) (s : ByteArray) (hT : Deb W) : Calls Tryz.prog 133 #[.string s] W fun e W' => e = .returned (.bool (lbegins s.data.toList)) ∧ Below W.heap.size W W' := by
  obtain ⟨b, hb⟩ : ∃ b, b = lbegins s.data.toList := ⟨_, rfl⟩
  rw [← hb]
  have HB := Lib.hid hb
  have HT := Lib.hid hT
  clear hb hT
  go_enter Tryz.func133, Tryz.ntmps133
  go_wp2
  go_loopw [4] (fun v wr => ∃ k : Nat, k ≤ 1005 ∧ v = .int .i64 k ∧ noneB s.data.toList k ∧ Below W.heap.size W wr) (fun v _ => 1005 - (intOf v).toNat)
  case atStart => exact ⟨0, by omega, rfl, fun n hn => by omega, Below.refl _ _⟩
  case round =>
    obtain ⟨k, hk, rfl, hn, hw⟩ := hrel
    have HN := Lib.hid hn
    have HW := Lib.hid hw
    have DW : Hid (Deb wr) := HT.out.belowB hw HT.out.lt
    clear hn hw
    by_cases hlt : k < 1005
    · have l1 : (k : Int) < 1005 := by omega
      cases hm : lmay k
      · have hm2 : Hid ((lmay k && Lib.hasPrefix (hx4 k) s.data.toList) = false) := by rw [hm]; rfl
        go_wp2_with (go_at_call 132; refine (lmay_any _ k).mono ?_; rintro e w' ⟨he, rfl⟩; rw [hm] at he; subst he)
        go_roundw
        case measure => simp [intOf]; omega
        case rel => exact ⟨k + 1, by omega, by go_num, noneB_succ HN.out hm2.out, HW.out⟩
      · cases hp : Lib.hasPrefix (hx4 k) s.data.toList
        · have hm2 : Hid ((lmay k && Lib.hasPrefix (hx4 k) s.data.toList) = false) := by rw [hm, hp]; rfl
          go_wp2_with (first | (go_at_call 132; refine (lmay_any _ k).mono ?_; rintro e w' ⟨he, rfl⟩; rw [hm] at he; subst he) | (go_at_call 100; refine (head4_any _ k (by omega) DW.out).mono ?_; rintro e w' ⟨rfl, hb⟩; have B := Lib.hid hb; clear hb) | (go_at_call 136; refine (Tryz.strings_HasPrefix _ _ _).mono ?_; rintro e w' ⟨he, rfl⟩; rw [show Lib.hasPrefix _ _ = false from hp] at he; subst he))
          go_roundw
          case measure => simp [intOf]; omega
          case rel => exact ⟨k + 1, by omega, by go_num, noneB_succ HN.out hm2.out, HW.out.trans (B.out.mono HW.out.size)⟩
        · have hm2 : Hid ((lmay k && Lib.hasPrefix (hx4 k) s.data.toList) = true) := by rw [hm, hp]; rfl
          go_wp2_with (first | (go_at_call 132; refine (lmay_any _ k).mono ?_; rintro e w' ⟨he, rfl⟩; rw [hm] at he; subst he) | (go_at_call 100; refine (head4_any _ k (by omega) DW.out).mono ?_; rintro e w' ⟨rfl, hb⟩; have B := Lib.hid hb; clear hb) | (go_at_call 136; refine (Tryz.strings_HasPrefix _ _ _).mono ?_; rintro e w' ⟨he, rfl⟩; rw [show Lib.hasPrefix _ _ = true from hp] at he; subst he))
          go_ret
          exact ⟨by rw [HB.out, someB hlt hm2.out]; rfl, HW.out.trans (B.out.mono HW.out.size)⟩
    · have hk : k = 1005 := by omega
      subst hk
      go_wp2
      go_ret
      exact ⟨by rw [HB.out, noneB_all HN.out]; rfl, HW.out⟩
end Go.Proofs.YtpfoohfgochaiaaGreatDoor
