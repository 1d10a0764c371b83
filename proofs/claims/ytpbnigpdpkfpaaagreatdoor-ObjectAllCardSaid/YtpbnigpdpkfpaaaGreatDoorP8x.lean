/- when.Get, in plain words: which texts are read as a time. when.Get, when.Of: what they tell. What a digit's value may be. colporteurlaw1.Text: what it cuts. -/
import Derived.Test.YtpbnigpdpkfpaaaGreatDoorPu
import Derived.Test.YtpbnigpdpkfpaaaGreatDoorP3x
namespace Go.Proofs.YtpbnigpdpkfpaaaGreatDoor
open Go.RowKit
theorem pd_hv (c : UInt8) (h : 0 ≤ hv c) : pd c = (hv c).toNat ∧ pd c < 16 ∧ c = hexd (hv c).toNat := by
  have h2 : ∀ n : Fin 256, 0 ≤ hv (UInt8.ofNat n.val) → pd (UInt8.ofNat n.val) = (hv (UInt8.ofNat n.val)).toNat ∧ pd (UInt8.ofNat n.val) < 16 ∧ UInt8.ofNat n.val = hexd (hv (UInt8.ofNat n.val)).toNat := by decide +kernel
  have := h2 ⟨c.toNat, c.toNat_lt⟩
  simp only [UInt8.ofNat_toNat] at this
  exact this h
theorem hv_hexdq (d : Nat) (h : d < 16) : hv (hexd d) = (d : Int) := by
  have : ∀ m : Fin 16, hv (hexd m.val) = ((m.val : Nat) : Int) := by decide +kernel
  exact this ⟨d, h⟩
theorem fold_none (l : List UInt8) : l.foldl hstep none = none := by
  induction l with
  | nil => rfl
  | cons c r ih => exact ih
theorem pu_fold (l : List UInt8) : ∀ (acc n : Nat), (acc + 1) * 16 ^ l.length ≤ 18446744073709551616 → l.foldl hstep (some acc) = some n → pu acc l = .ok n := by
  induction l with
  | nil =>
    intro acc n _ h
    simp at h
    rw [pu, h]
  | cons c r ih =>
    intro acc n hb h
    rw [List.foldl_cons] at h
    rw [pu]
    by_cases hc : hv c < 0
    · rw [show hstep (some acc) c = none from by simp [hstep, hc], fold_none] at h
      cases h
    · obtain ⟨h1, h2, _⟩ := pd_hv c (by omega)
      rw [show hstep (some acc) c = some (acc * 16 + (hv c).toNat) from by simp [hstep, hc]] at h
      rw [List.length_cons, Nat.pow_succ] at hb
      have hp : 1 ≤ 16 ^ r.length := Nat.pow_pos (by omega)
      have e1 : (acc + 1) * (16 ^ r.length * 16) = (acc + 1) * 16 * 16 ^ r.length := by rw [Nat.mul_comm (16 ^ r.length) 16, Nat.mul_assoc]
      rw [e1] at hb
      have h3 : (acc + 1) * 16 * 1 ≤ (acc + 1) * 16 * 16 ^ r.length := Nat.mul_le_mul_left _ hp
      rw [if_pos h2, if_neg (by omega), h1]
      refine ih _ _ (Nat.le_trans (Nat.mul_le_mul_right _ ?_) hb) h
      omega
theorem pu_lt (l : List UInt8) : ∀ (acc n : Nat), acc < 18446744073709551616 → pu acc l = .ok n → n < 18446744073709551616 := by
  induction l with
  | nil =>
    intro acc n ha h
    rw [pu] at h
    cases h
    exact ha
  | cons c r ih =>
    intro acc n ha h
    rw [pu] at h
    split at h
    · split at h
      · cases h
      · exact ih _ _ (by omega) h
    · cases h
theorem puB_hnum (l : List UInt8) (h1 : 0 < l.length) (h16 : l.length ≤ 16) (n : Nat) (h : hnum l = some n) : puB l = .ok n := by
  unfold puB
  rw [if_neg (by intro e; rw [e] at h1; exact absurd h1 (by decide))]
  refine pu_fold l 0 n ?_ h
  have : 16 ^ l.length ≤ 16 ^ 16 := Nat.pow_le_pow_right (by omega) h16
  rw [show (16 : Nat) ^ 16 = 18446744073709551616 by decide] at this
  omega
theorem hnum_snoc_some {l : List UInt8} {c : UInt8} {n : Nat} (h : hnum (l ++ [c]) = some n) : hnum l = some (n / 16) ∧ 0 ≤ hv c ∧ (hv c).toNat = n % 16 := by
  rw [hnum_snoc] at h
  cases hl : hnum l with
  | none => rw [hl] at h; cases h
  | some m =>
    rw [hl] at h
    have h16 := hv_lt c
    by_cases hc : hv c < 0
    · rw [show hstep (some m) c = none from by simp [hstep, hc]] at h
      cases h
    · rw [show hstep (some m) c = some (m * 16 + (hv c).toNat) from by simp [hstep, hc]] at h
      injection h with h
      exact ⟨by congr 1; omega, by omega, by omega⟩
theorem hnum_inj (k : Nat) : ∀ (l m : List UInt8) (n : Nat), l.length = k → m.length = k → hnum l = some n → hnum m = some n → l = m := by
  induction k with
  | zero =>
    intro l m n h1 h2 _ _
    rw [List.length_eq_zero_iff.mp h1, List.length_eq_zero_iff.mp h2]
  | succ k ih =>
    intro l m n h1 h2 e1 e2
    rcases List.eq_nil_or_concat l with rfl | ⟨l', c, rfl⟩
    · simp at h1
    rcases List.eq_nil_or_concat m with rfl | ⟨m', d, rfl⟩
    · simp at h2
    simp only [List.concat_eq_append, List.length_append, List.length_cons, List.length_nil] at h1 h2 e1 e2 ⊢
    obtain ⟨a1, a2, a3⟩ := hnum_snoc_some e1
    obtain ⟨b1, b2, b3⟩ := hnum_snoc_some e2
    rw [ih l' m' _ (by omega) (by omega) a1 b1, (pd_hv c a2).2.2, (pd_hv d b2).2.2, a3, b3]
theorem hnum_hexS (n : Nat) : hnum (hexS n) = some n := by
  induction n using Nat.strongRecOn with
  | ind n ih =>
    by_cases h : n < 16
    · rw [hexS_lt h]
      have := hv_hexdq n h
      simp only [hnum, List.foldl_cons, List.foldl_nil, hstep, Option.bind_some]
      rw [this, if_neg (by omega)]
      congr 1
      omega
    · rw [hexS_ge (by omega), hnum_snoc, ih (n / 16) (by omega)]
      have := hv_hexdq (n % 16) (by omega)
      simp only [hstep, Option.bind_some]
      rw [this, if_neg (by omega)]
      congr 1
      omega
theorem hnum_noughs (k : Nat) (l : List UInt8) : hnum (List.replicate k 48 ++ l) = hnum l := by
  induction k with
  | zero => rfl
  | succ k ih =>
    rw [List.replicate_succ, List.cons_append]
    have h0 : hstep (some 0) 48 = some 0 := by decide
    unfold hnum at ih ⊢
    rw [List.foldl_cons, h0]
    exact ih
theorem wput_len {b : Nat} (hb : b < 18446744073709551616) (h : fmay b = true) : (wput b).length = 16 := by
  unfold wput
  have hl := hexS_len 15 b (by rw [show (16 : Nat) ^ (15 + 1) = 18446744073709551616 by decide]; exact hb)
  rw [h]
  simp only [cond_true, List.length_append, List.length_replicate]
  omega
theorem wput_num {b : Nat} (h : fmay b = true) : hnum (wput b) = some b := by
  unfold wput
  rw [h, cond_true, hnum_noughs, hnum_hexS]
/-- What when.Get tells of a text: the bits; is it a time? -/
def wgetV (l : List UInt8) : Nat × Bool := match puB l with
  | .ok n => bif fmay n && (wput n == l) then (n, true) else (0, false)
  | _ => (0, false)
/-- What the document tells. -/
def rgetV (l : List UInt8) : Nat × Bool := match hnum l with
  | some n => bif decide (l.length = 16) && fmay n then (n, true) else (0, false)
  | none => (0, false)
theorem wgetV_eq (l : List UInt8) : wgetV l = rgetV l := by
  unfold rgetV
  cases hn : hnum l with
  | some n =>
    by_cases h16 : l.length = 16
    · rw [wgetV, puB_hnum l (by omega) (by omega) n hn]
      simp only [h16, decide_true, Bool.true_and]
      cases hm : fmay n
      · rfl
      · have hlt : n < 18446744073709551616 := by
          have := hnum_lt l 16 (by omega) n (by rw [List.take_of_length_le (by omega)]; exact hn)
          rwa [show (16 : Nat) ^ 16 = 18446744073709551616 by decide] at this
        rw [hnum_inj 16 (wput n) l n (wput_len hlt hm) h16 (wput_num hm) hn]
        simp
    · simp only [h16, decide_false, Bool.false_and, cond_false]
      unfold wgetV
      cases hp : puB l with
      | ok m =>
        simp only
        cases hm : fmay m
        · rfl
        · have hlt : m < 18446744073709551616 := by
            unfold puB at hp
            split at hp
            · cases hp
            · exact pu_lt l 0 m (by omega) hp
          have : (wput m == l) = false := by
            rw [beq_eq_false_iff_ne]
            intro e
            exact h16 (by rw [← e]; exact wput_len hlt hm)
          rw [this]
          rfl
      | range => rfl
      | _ => rfl
  | none =>
    unfold wgetV
    cases hp : puB l with
    | ok m =>
      simp only
      cases hm : fmay m
      · rfl
      · have : (wput m == l) = false := by
          rw [beq_eq_false_iff_ne]
          intro e
          rw [← e, wput_num hm] at hn
          cases hn
        rw [this]
        rfl
    | range => rfl
    | _ => rfl
theorem wgetV_put {b : Nat} (hb : b < 18446744073709551616) (h : fmay b = true) : wgetV (wput b) = (b, true) := by
  rw [wgetV_eq, rgetV, wput_num h]
  simp [wput_len hb h, h]
theorem wput_not {b : Nat} (h : fmay b = false) : wput b = [] := by unfold wput; rw [h]; rfl
end Go.Proofs.YtpbnigpdpkfpaaaGreatDoor
namespace Go.Proofs.YtpbnigpdpkfpaaaGreatDoor
open Go.RowKit
/-- The errors' variables. -/
structure Ge (W : World) : Prop where
  esyn : ∃ ev, W.cell? ⟨3, 0, none⟩ = some ev ∧ (ev = .nilIface ∨ ∃ te pe, ev = .iface te pe)
  eran : ∃ ev, W.cell? ⟨4, 0, none⟩ = some ev ∧ (ev = .nilIface ∨ ∃ te pe, ev = .iface te pe)
theorem Ge.below {W W1 : World} (h : Ge W) (hb : Below W.heap.size W W1) : Ge W1 :=
  ⟨h.esyn.imp fun _ hm => ⟨(hb.cell (World.block_lt_of_cell? W _ hm.1)).trans hm.1, hm.2⟩, h.eran.imp fun _ hm => ⟨(hb.cell (World.block_lt_of_cell? W _ hm.1)).trans hm.1, hm.2⟩⟩
def PubErr (W : World) (e : Ending) (W' : World) : Prop := ∃ (m : Int) (N : Nat), e = .returned (.tuple #[.int .u64 m, .iface 289 (.pointer (some ⟨N, 0, none⟩))]) ∧ Below W.heap.size W W'
set_option maxRecDepth 20000 in
set_option maxHeartbeats 1600000 in
theorem pub_ok (W : World) (s : ByteArray) (hs : s.size ≤ 140737488355328) (n : Nat) (h : puB s.data.toList = .ok n) : Calls Tryz.prog 168 #[.string s, .int .i64 16, .int .i64 64] W fun e W' => e = .returned (.tuple #[.int .u64 (n : Int), .nilIface]) ∧ Below W.heap.size W W' := by
  have hc := puin_any W s hs
  rw [h] at hc
  simp only [Lib.uintTuple] at hc
  have HC := Lib.hid hc
  clear hc hs h
  obtain ⟨z, hz⟩ : ∃ z : Int, z = (n : Int) := ⟨_, rfl⟩
  rw [← hz] at HC ⊢
  clear hz
  go_enter Tryz.func168, Tryz.ntmps168
  go_wp2_with (go_at_call 215; refine HC.out.mono ?_; rintro e w1 ⟨rfl, hb⟩; have B := Lib.hid hb; clear hb)
  go_ret2
  exact ⟨rfl, B.out⟩
set_option maxRecDepth 20000 in
set_option maxHeartbeats 1600000 in
theorem pub_err (W : World) (s : ByteArray) (hs : s.size ≤ 140737488355328) (h : ∀ n, puB s.data.toList ≠ .ok n) (hE : Ge W) : Calls Tryz.prog 168 #[.string s, .int .i64 16, .int .i64 64] W (PubErr W) := by
  have hc := puin_any W s hs
  have HE := Lib.hid hE
  have HS := Lib.hid hs
  have run_neq : ∀ (v : Value) (w : World), (binOp .neq 195 (.iface 287 v) .nilIface).run Tryz.prog w = .ok (.bool true) w := fun v w => by kernel_rfl
  cases hp : puB s.data.toList with
  | ok n => exact absurd hp (h n)
  | range =>
    rw [hp] at hc
    simp only [Lib.uintTuple] at hc
    have HC := Lib.hid hc
    clear hc hs h hp hE
    go_enter Tryz.func168, Tryz.ntmps168
    go_wp2_with (first
      | (go_at_call 215; refine HC.out.mono ?_; rintro e w1 ⟨rfl, hb⟩; have B := Lib.hid hb; clear hb; obtain ⟨ev, hv, hev⟩ := (HE.out.below B.out).eran; have HV := Lib.hid (And.intro hv hev); clear hv hev)
      | (go_at_call 216; refine (Tryz.strconv_toError_range _ s 16 64 ev w1 (by have := HS.out; omega) HV.out.1 HV.out.2).mono ?_; rintro e w2 ⟨N, rfl, _, _, hb⟩; have B2 := Lib.hid hb; clear hb))
    go_ret2
    exact ⟨_, N, rfl, B.out.trans (B2.out.mono B.out.size)⟩
  | _ =>
    rw [hp] at hc
    simp only [Lib.uintTuple] at hc
    have HC := Lib.hid hc
    clear hc hs h hp hE
    go_enter Tryz.func168, Tryz.ntmps168
    go_wp2_with (first
      | (go_at_call 215; refine HC.out.mono ?_; rintro e w1 ⟨rfl, hb⟩; have B := Lib.hid hb; clear hb; obtain ⟨ev, hv, hev⟩ := (HE.out.below B.out).esyn; have HV := Lib.hid (And.intro hv hev); clear hv hev)
      | (go_at_call 216; refine (Tryz.strconv_toError_syntax _ s 16 64 ev w1 (by have := HS.out; omega) HV.out.1 HV.out.2).mono ?_; rintro e w2 ⟨N, rfl, _, _, hb⟩; have B2 := Lib.hid hb; clear hb))
    go_ret2
    exact ⟨_, N, rfl, B.out.trans (B2.out.mono B.out.size)⟩
def ofW (n : Nat) : Value := .tuple #[.float .f64 (bif fmay n then n else 0), .bool (fmay n)]
theorem of64_any (W : World) (n : Nat) : Calls Tryz.prog 169 #[.int .u64 n] W fun e W' => e = .returned (ofW n) ∧ W' = W := by
  have h1 := run_frombits
  have hm : ∀ w, Calls Tryz.prog 133 #[.float .f64 n] w fun e W' => e = .returned (.bool (fmay n)) ∧ W' = w := fun w => may_any w n
  unfold ofW
  cases hf : fmay n
  all_goals
    rw [hf] at hm
    clear hf
    go_enter Tryz.func169, Tryz.ntmps169
    go_wp2_with (go_at_call 133; refine (hm _).mono ?_; rintro e w' ⟨rfl, hw⟩; replace hw := hw.symm; subst hw)
    go_ret2
    exact ⟨rfl, rfl⟩
def wgetT (l : List UInt8) : Value := .tuple #[.float .f64 (wgetV l).1, .bool (wgetV l).2]
set_option maxRecDepth 20000 in
set_option maxHeartbeats 1600000 in
theorem wget_any (W : World) (s : ByteArray) (hs : s.size ≤ 140737488355328) (hG : Gl W) (hE : Ge W) : Calls Tryz.prog 117 #[.string s] W fun e W' => e = .returned (wgetT s.data.toList) ∧ Below W.heap.size W W' := by
  by_cases h : ∃ n, puB s.data.toList = .ok n
  · obtain ⟨n, hn⟩ := h
    have hlt : n < 18446744073709551616 := by
      unfold puB at hn
      split at hn
      · cases hn
      · exact pu_lt _ 0 n (by omega) hn
    have cP := pub_ok W s hs n hn
    have cO := fun w => of64_any w n
    have cW := fun w hG => wput_any w n hlt hG
    have CP := Lib.hid cP
    have CW := Lib.hid cW
    have HG := Lib.hid hG
    unfold ofW at cO
    unfold wgetT
    cases hf : fmay n
    · rw [hf] at cO
      rw [show wgetV s.data.toList = (0, false) by unfold wgetV; rw [hn]; simp [hf]]
      have CO := Lib.hid cO
      clear cP cO cW hG hE hs hn hlt hf
      go_enter Tryz.func117, Tryz.ntmps117
      go_wp2_with (first
        | (go_at_call 168; refine CP.out.mono ?_; rintro e w1 ⟨rfl, hb⟩; have B := Lib.hid hb; clear hb)
        | (go_at_call 169; refine (CO.out _).mono ?_; rintro e w' ⟨rfl, hw⟩; replace hw := hw.symm; subst hw))
      go_ret2
      exact ⟨rfl, B.out⟩
    · rw [hf] at cO
      have CO := Lib.hid cO
      obtain ⟨p, hp⟩ : ∃ p : ByteArray, p = ⟨(wput n).toArray⟩ := ⟨_, rfl⟩
      rw [← hp] at CW
      rw [show wgetV s.data.toList = if p = s then (n, true) else (0, false) by
        unfold wgetV
        rw [hn]
        simp only [hf, Bool.true_and]
        by_cases e : p = s
        · rw [if_pos e, show (wput n == s.data.toList) = true by rw [beq_iff_eq, ← e, hp]]
          rfl
        · rw [if_neg e, show (wput n == s.data.toList) = false by
            rw [beq_eq_false_iff_ne]
            intro e2
            exact e (ba_ext (by rw [hp, ← e2]))]
          rfl]
      by_cases e : p = s
      · subst e
        rw [if_pos rfl]
        clear cP cO cW hG hE hs hn hlt hf hp
        go_enter Tryz.func117, Tryz.ntmps117
        go_wp2_with (first
          | (go_at_call 168; refine CP.out.mono ?_; rintro e w1 ⟨rfl, hb⟩; have B := Lib.hid hb; have G1 := Lib.hid (HG.out.below hb); clear hb)
          | (go_at_call 112; refine (CW.out _ G1.out).mono ?_; rintro e w2 ⟨rfl, hb⟩; have B2 := Lib.hid (B.out.trans (hb.mono B.out.size)); clear hb)
          | (go_at_call 169; refine (CO.out _).mono ?_; rintro e w' ⟨rfl, hw⟩; replace hw := hw.symm; subst hw))
        go_ret2
        exact ⟨rfl, B2.out⟩
      · rw [if_neg e]
        have e1 : (p.toList == s.toList) = false := by
          rw [beq_eq_false_iff_ne, ByteArray.toList_eq, ByteArray.toList_eq]
          intro h
          exact e (ba_ext h)
        have e2 : (p.toList != s.toList) = true := by simp only [bne, e1]; rfl
        clear cP cO cW hG hE hs hn hlt hf hp e
        go_enter Tryz.func117, Tryz.ntmps117
        go_wp2_with (first
          | (go_at_call 168; refine CP.out.mono ?_; rintro e w1 ⟨rfl, hb⟩; have B := Lib.hid hb; have G1 := Lib.hid (HG.out.below hb); clear hb)
          | (go_at_call 112; refine (CW.out _ G1.out).mono ?_; rintro e w2 ⟨rfl, hb⟩; have B2 := Lib.hid (B.out.trans (hb.mono B.out.size)); clear hb)
          | (go_at_call 169; refine (CO.out _).mono ?_; rintro e w' ⟨rfl, hw⟩; replace hw := hw.symm; subst hw))
        go_ret2
        exact ⟨rfl, B2.out⟩
  · have cP := pub_err W s hs (fun n hn => h ⟨n, hn⟩) hE
    have CP := Lib.hid cP
    have hv : wgetV s.data.toList = (0, false) := by
      unfold wgetV
      cases hp : puB s.data.toList with
      | ok n => exact absurd ⟨n, hp⟩ h
      | range => rfl
      | _ => rfl
    unfold wgetT
    rw [hv]
    clear cP hG hE hs hv h
    go_enter Tryz.func117, Tryz.ntmps117
    go_wp2_with (go_at_call 168; refine CP.out.mono ?_; rintro e w1 ⟨m, N, rfl, hb⟩; have B := Lib.hid hb; clear hb)
    go_ret2
    exact ⟨rfl, B.out⟩
end Go.Proofs.YtpbnigpdpkfpaaaGreatDoor
namespace Go.Proofs.YtpbnigpdpkfpaaaGreatDoor
/-- A digit's number, by where its byte lies. -/
theorem hv_cases (c : UInt8) : (48 ≤ ub c ∧ ub c ≤ 57 ∧ hv c = ub c - 48) ∨ (97 ≤ ub c ∧ ub c ≤ 102 ∧ hv c = ub c - 87) ∨ ((ub c < 48 ∨ (57 < ub c ∧ ub c < 97) ∨ 102 < ub c) ∧ hv c = -1) := by
  have h : ∀ n : Fin 256, (48 ≤ (n.val : Int) ∧ (n.val : Int) ≤ 57 ∧ hv (UInt8.ofNat n.val) = (n.val : Int) - 48) ∨ (97 ≤ (n.val : Int) ∧ (n.val : Int) ≤ 102 ∧ hv (UInt8.ofNat n.val) = (n.val : Int) - 87) ∨ (((n.val : Int) < 48 ∨ (57 < (n.val : Int) ∧ (n.val : Int) < 97) ∨ 102 < (n.val : Int)) ∧ hv (UInt8.ofNat n.val) = -1) := by decide +kernel
  have := h ⟨c.toNat, c.toNat_lt⟩
  simpa [ub] using this
end Go.Proofs.YtpbnigpdpkfpaaaGreatDoor
namespace Go.Proofs.YtpbnigpdpkfpaaaGreatDoor
open Go.RowKit
set_option maxHeartbeats 400000 in
theorem text_cut (W : World) (s : ByteArray) (n : Nat) : Calls Tryz.prog 17 #[.string s, .int .i64 n] W fun e W' => e = .returned (.string ⟨(s.data.toList.take n).toArray⟩) ∧ W' = W := by
  have e : (⟨(s.data.toList.take n).toArray⟩ : ByteArray) = s.extract 0 (min (s.size : Int) (n : Int)).toNat := by
    refine ba_ext ?_
    rw [show (min (s.size : Int) (n : Int)).toNat = min s.size n by omega, ba_upto, ba_size]
    rw [← List.take_take]
    exact (List.take_of_length_le (by rw [List.length_take]; omega)).symm
  rw [e]
  clear e
  have l0 : (0 : Int) ≤ min (s.size : Int) (n : Int) := by omega
  have l1 : min (s.size : Int) (n : Int) ≤ (s.size : Int) := by omega
  go_enter Tryz.func17, Tryz.ntmps17
  go_wp2
  go_ret
  exact ⟨rfl, rfl⟩
end Go.Proofs.YtpbnigpdpkfpaaaGreatDoor
