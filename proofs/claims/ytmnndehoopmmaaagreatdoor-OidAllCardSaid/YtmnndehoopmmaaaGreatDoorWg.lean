/- when.Get, when.Of: what they tell. -/
import Derived.Test.YtmnndehoopmmaaaGreatDoorWq
namespace Go.Proofs.YtmnndehoopmmaaaGreatDoor
open Go.RowKit
/-- The errors' variables. -/
structure Ge (W : World) : Prop where
  esyn : ∃ ev, W.cell? ⟨2, 0, none⟩ = some ev ∧ (ev = .nilIface ∨ ∃ te pe, ev = .iface te pe)
  eran : ∃ ev, W.cell? ⟨3, 0, none⟩ = some ev ∧ (ev = .nilIface ∨ ∃ te pe, ev = .iface te pe)
theorem Ge.below {W W1 : World} (h : Ge W) (hb : Below W.heap.size W W1) : Ge W1 :=
  ⟨h.esyn.imp fun _ hm => ⟨(hb.cell (World.block_lt_of_cell? W _ hm.1)).trans hm.1, hm.2⟩, h.eran.imp fun _ hm => ⟨(hb.cell (World.block_lt_of_cell? W _ hm.1)).trans hm.1, hm.2⟩⟩
def PubErr (W : World) (e : Ending) (W' : World) : Prop := ∃ (m : Int) (N : Nat), e = .returned (.tuple #[.int .u64 m, .iface 149 (.pointer (some ⟨N, 0, none⟩))]) ∧ Below W.heap.size W W'
set_option maxRecDepth 20000 in
set_option maxHeartbeats 1600000 in
theorem pub_ok (W : World) (s : ByteArray) (hs : s.size ≤ 140737488355328) (n : Nat) (h : puB s.data.toList = .ok n) : Calls Tryz.prog 69 #[.string s, .int .i64 16, .int .i64 64] W fun e W' => e = .returned (.tuple #[.int .u64 (n : Int), .nilIface]) ∧ Below W.heap.size W W' := by
  have hc := puin_any W s hs
  rw [h] at hc
  simp only [Lib.uintTuple] at hc
  have HC := Lib.hid hc
  clear hc hs h
  obtain ⟨z, hz⟩ : ∃ z : Int, z = (n : Int) := ⟨_, rfl⟩
  rw [← hz] at HC ⊢
  clear hz
  go_enter Tryz.func69, Tryz.ntmps69
  go_wp2_with (go_at_call 104; refine HC.out.mono ?_; rintro e w1 ⟨rfl, hb⟩; have B := Lib.hid hb; clear hb)
  go_ret2
  exact ⟨rfl, B.out⟩
set_option maxRecDepth 20000 in
set_option maxHeartbeats 1600000 in
theorem pub_err (W : World) (s : ByteArray) (hs : s.size ≤ 140737488355328) (h : ∀ n, puB s.data.toList ≠ .ok n) (hE : Ge W) : Calls Tryz.prog 69 #[.string s, .int .i64 16, .int .i64 64] W (PubErr W) := by
  have hc := puin_any W s hs
  have HE := Lib.hid hE
  have HS := Lib.hid hs
  have run_neq : ∀ (v : Value) (w : World), (binOp .neq 83 (.iface 147 v) .nilIface).run Tryz.prog w = .ok (.bool true) w := fun v w => by kernel_rfl
  cases hp : puB s.data.toList with
  | ok n => exact absurd hp (h n)
  | «syntax» =>
    rw [hp] at hc
    simp only [Lib.uintTuple] at hc
    have HC := Lib.hid hc
    clear hc hs h hp hE
    go_enter Tryz.func69, Tryz.ntmps69
    go_wp2_with (first
      | (go_at_call 104; refine HC.out.mono ?_; rintro e w1 ⟨rfl, hb⟩; have B := Lib.hid hb; clear hb; obtain ⟨ev, hv, hev⟩ := (HE.out.below B.out).esyn; have HV := Lib.hid (And.intro hv hev); clear hv hev)
      | (go_at_call 105; refine (Tryz.strconv_toError_syntax _ s 16 64 ev w1 (by have := HS.out; omega) HV.out.1 HV.out.2).mono ?_; rintro e w2 ⟨N, rfl, _, _, hb⟩; have B2 := Lib.hid hb; clear hb))
    go_ret2
    exact ⟨_, N, rfl, B.out.trans (B2.out.mono B.out.size)⟩
  | range =>
    rw [hp] at hc
    simp only [Lib.uintTuple] at hc
    have HC := Lib.hid hc
    clear hc hs h hp hE
    go_enter Tryz.func69, Tryz.ntmps69
    go_wp2_with (first
      | (go_at_call 104; refine HC.out.mono ?_; rintro e w1 ⟨rfl, hb⟩; have B := Lib.hid hb; clear hb; obtain ⟨ev, hv, hev⟩ := (HE.out.below B.out).eran; have HV := Lib.hid (And.intro hv hev); clear hv hev)
      | (go_at_call 105; refine (Tryz.strconv_toError_range _ s 16 64 ev w1 (by have := HS.out; omega) HV.out.1 HV.out.2).mono ?_; rintro e w2 ⟨N, rfl, _, _, hb⟩; have B2 := Lib.hid hb; clear hb))
    go_ret2
    exact ⟨_, N, rfl, B.out.trans (B2.out.mono B.out.size)⟩
def ofW (n : Nat) : Value := .tuple #[.float .f64 (bif fmay n then n else 0), .bool (fmay n)]
theorem of64_any (W : World) (n : Nat) : Calls Tryz.prog 14 #[.int .u64 n] W fun e W' => e = .returned (ofW n) ∧ W' = W := by
  have h1 := run_frombits
  have hm : ∀ w, Calls Tryz.prog 18 #[.float .f64 n] w fun e W' => e = .returned (.bool (fmay n)) ∧ W' = w := fun w => may_any w n
  unfold ofW
  cases hf : fmay n
  all_goals
    rw [hf] at hm
    clear hf
    go_enter Tryz.func14, Tryz.ntmps14
    go_wp2_with (go_at_call 18; refine (hm _).mono ?_; rintro e w' ⟨rfl, hw⟩; replace hw := hw.symm; subst hw)
    go_ret2
    exact ⟨rfl, rfl⟩
def wgetT (l : List UInt8) : Value := .tuple #[.float .f64 (wgetV l).1, .bool (wgetV l).2]
set_option maxRecDepth 20000 in
set_option maxHeartbeats 1600000 in
theorem wget_any (W : World) (s : ByteArray) (hs : s.size ≤ 140737488355328) (hG : Gl W) (hE : Ge W) : Calls Tryz.prog 17 #[.string s] W fun e W' => e = .returned (wgetT s.data.toList) ∧ Below W.heap.size W W' := by
  by_cases h : ∃ n, puB s.data.toList = .ok n
  · obtain ⟨n, hn⟩ := h
    have hlt : n < 18446744073709551616 := by
      unfold puB at hn
      split at hn
      · cases hn
      · exact pu_lt _ 0 n (by omega) hn
    have cP := pub_ok W s hs n hn
    have cO := fun w => of64_any w n
    have cW := fun w hG => wput_any w n hlt hG
    have CP := Lib.hid cP
    have CW := Lib.hid cW
    have HG := Lib.hid hG
    unfold ofW at cO
    unfold wgetT
    cases hf : fmay n
    · rw [hf] at cO
      rw [show wgetV s.data.toList = (0, false) by unfold wgetV; rw [hn]; simp [hf]]
      have CO := Lib.hid cO
      clear cP cO cW hG hE hs hn hlt hf
      go_enter Tryz.func17, Tryz.ntmps17
      go_wp2_with (first
        | (go_at_call 69; refine CP.out.mono ?_; rintro e w1 ⟨rfl, hb⟩; have B := Lib.hid hb; clear hb)
        | (go_at_call 14; refine (CO.out _).mono ?_; rintro e w' ⟨rfl, hw⟩; replace hw := hw.symm; subst hw))
      go_ret2
      exact ⟨rfl, B.out⟩
    · rw [hf] at cO
      have CO := Lib.hid cO
      obtain ⟨p, hp⟩ : ∃ p : ByteArray, p = ⟨(wput n).toArray⟩ := ⟨_, rfl⟩
      rw [← hp] at CW
      rw [show wgetV s.data.toList = if p = s then (n, true) else (0, false) by
        unfold wgetV
        rw [hn]
        simp only [hf, Bool.true_and]
        by_cases e : p = s
        · rw [if_pos e, show (wput n == s.data.toList) = true by rw [beq_iff_eq, ← e, hp]]
          rfl
        · rw [if_neg e, show (wput n == s.data.toList) = false by
            rw [beq_eq_false_iff_ne]
            intro e2
            exact e (ba_ext (by rw [hp, ← e2]))]
          rfl]
      by_cases e : p = s
      · subst e
        rw [if_pos rfl]
        clear cP cO cW hG hE hs hn hlt hf hp
        go_enter Tryz.func17, Tryz.ntmps17
        go_wp2_with (first
          | (go_at_call 69; refine CP.out.mono ?_; rintro e w1 ⟨rfl, hb⟩; have B := Lib.hid hb; have G1 := Lib.hid (HG.out.below hb); clear hb)
          | (go_at_call 16; refine (CW.out _ G1.out).mono ?_; rintro e w2 ⟨rfl, hb⟩; have B2 := Lib.hid (B.out.trans (hb.mono B.out.size)); clear hb)
          | (go_at_call 14; refine (CO.out _).mono ?_; rintro e w' ⟨rfl, hw⟩; replace hw := hw.symm; subst hw))
        go_ret2
        exact ⟨rfl, B2.out⟩
      · rw [if_neg e]
        have e1 : (p.toList == s.toList) = false := by
          rw [beq_eq_false_iff_ne, ByteArray.toList_eq, ByteArray.toList_eq]
          intro h
          exact e (ba_ext h)
        have e2 : (p.toList != s.toList) = true := by simp only [bne, e1]; rfl
        clear cP cO cW hG hE hs hn hlt hf hp e
        go_enter Tryz.func17, Tryz.ntmps17
        go_wp2_with (first
          | (go_at_call 69; refine CP.out.mono ?_; rintro e w1 ⟨rfl, hb⟩; have B := Lib.hid hb; have G1 := Lib.hid (HG.out.below hb); clear hb)
          | (go_at_call 16; refine (CW.out _ G1.out).mono ?_; rintro e w2 ⟨rfl, hb⟩; have B2 := Lib.hid (B.out.trans (hb.mono B.out.size)); clear hb)
          | (go_at_call 14; refine (CO.out _).mono ?_; rintro e w' ⟨rfl, hw⟩; replace hw := hw.symm; subst hw))
        go_ret2
        exact ⟨rfl, B2.out⟩
  · have cP := pub_err W s hs (fun n hn => h ⟨n, hn⟩) hE
    have CP := Lib.hid cP
    have hv : wgetV s.data.toList = (0, false) := by
      unfold wgetV
      cases hp : puB s.data.toList with
      | ok n => exact absurd ⟨n, hp⟩ h
      | «syntax» => rfl
      | range => rfl
    unfold wgetT
    rw [hv]
    clear cP hG hE hs hv h
    go_enter Tryz.func17, Tryz.ntmps17
    go_wp2_with (go_at_call 69; refine CP.out.mono ?_; rintro e w1 ⟨m, N, rfl, hb⟩; have B := Lib.hid hb; clear hb)
    go_ret2
    exact ⟨rfl, B.out⟩
end Go.Proofs.YtmnndehoopmmaaaGreatDoor
